/-
  aquifertop.WholePromote: for every input the law returns true, and each argument reads as it did. No condition.
-/
import Derived.Test.YtkpjfnbbkohciaaGreatBk
import Derived.Test.YtkpjfnbbkohciaaGreatBe
import Derived.Shelf.Slices.In.SortNone
set_option maxRecDepth 100000
set_option maxHeartbeats 16000000
set_option linter.all false
open Go renaming TypeId->Aab,Calls->Aaf,Oper->Abi,execOp->Abt,wpAnyH->Acp,Ending->Ab3,splice->Abz,zeroValue->Ab9
open Int renaming toNat->Adu,toNat_natCast->Abr
open List renaming range->Aal,length_append->Aae,length_map->Aac,length_range->Acl,length_nil->Aa5,flatMap_cons->Abd,map_cons->Ab8,getElem_map->Adl,replicate->Aad,mem_cons->Aak,sum_cons->Acm,length_cons->Aaj,mem_append->Aa3,mem_map->Abb,map_append->Aao,append_nil->Ab4,append_assoc->Abe,length->κ
open Go.Proofs.Tryz renaming prog->Aag,underlying30->Aau
open Go.Value.slice renaming injEq->Abh
open Option.some renaming injEq->Aai
open Go.Addr.mk renaming injEq->Abm
open Go.Value renaming int->Acd,ownBlock->Aan,slice->Acg,oneCell'->Ac9
open Go.Op renaming equalIn->Ac3
open Go.Sem renaming run_bind->Aa1,run_pure->Ac7
open Go.Result renaming andThen_ok->Aay
open Go.RowKit renaming intOf->Aaq
open Nat renaming zero_add->Abn
open And renaming intro->Adc
open Go.World renaming size_alloc->Aa4
open Bool renaming and_eq_true->Aa8,or_eq_true->Adk
open Go.Instr renaming index->Ac0
open Go.WideShapes renaming okWide_slice->Adt
namespace Go.Proofs.YtkpjfnbbkohciaaGreat
open Go.Proofs.Tryz Go.RowKit Go.Sort
variable{r:List iR}{c cap g gb j k n p:Nat}{l:List ab}{a:Option Addr}{C:Array ah}{b:List aj}{o:iR}{w:af}{M:cO}{G:ch}{H:aS}{t:Aab}
theorem MN(S:G.next<=281474976710655/\(κ G.l)<=32/\∀x∈G.l,cz x=true)(hs:ck G.l<=128)(h1:12<=ck G.l)(ht:64<=κ G.P.C/\(κ G.P.C)<=400)(hc:11<=bj G.P.s)(h2:22<=bj G.P.s+κ G.ms):ev G=true:=by have e:fc G=e2 (ck G.l) (κ G.P.C):=hQ S ae ae;grind [fc,e2,Bn,oX,ev]
def zz:List aj:=[118]
def jU(G:ch):ch:={G with next:=2,l:=[ec 1 zz 4]}
section
variable {G G2 G3:ch} {b:List aj} {n:Nat}
theorem JA(N:gX 64 G b):cD G.next G.l zz 4=.ok (2,[ec 1 zz 4]):=by rw[N.nx,N.l];rfl
theorem Wx(N:gX 64 G b):ev (jU G)=true:=by obtain⟨h1,h2,h3⟩:=cX N.room N.few N.len;refine MN ⟨by show 2<=_;omega,by show 1<=32;omega,?_⟩ (by show ck [ec 1 zz 4]<=128;decide) (by simp[ck,ec,zz]) (by show 64<=κ G.P.C/\(κ G.P.C)<=400;omega) (by show 11<=bj G.P.s;omega) (by show 22<=bj G.P.s+κ G.ms;omega);intro x hx;have hx:=hx;rw[List.mem_singleton.mp hx];decide
theorem aax(N:gX 64 G b){r:Int}(h:fB G (cD G.next G.l zz 4) id true r G2):r=0/\G2=jU G:=by
 rw[JA N]at h;rcases h with⟨n,h,_⟩|⟨nx,l',h,rfl,rfl⟩
 ·cases h
 ·cases h;grind [ye,jU,Wx]
theorem Zq(N:gX 64 G b):bq (jU G):=N.inv.create (by rw[N.nx];omega) (JA N) (Wx N)
theorem abE(N:gX 64 G b):py (jU G):=⟨by show 2<=_;omega,by show G.P.st<=_;rw[N.st];omega,by show G.P.m<=_;rw[N.m];omega,by show G.u.du<=_;rw[N.tx];omega⟩
theorem Zr:j0 [ec 1 zz 4] zz 1=.ok 0:=aA
theorem aav{x:ab}(h:cH x=cH (ec 1 zz 4)):fz [x] zz 1=.ok 0:=by obtain⟨a1,a2,a3,a4,a5,a6,a7,a8,a9⟩:=x;simp only[cH,ec,ab.mk.injEq]at h;obtain⟨rfl,rfl,rfl,rfl,rfl,rfl,rfl,_,_⟩:=h;rfl
theorem YP(N:gX 64 G b):¬Y4 (jU G):=by
 obtain⟨h1,h2,h3⟩:=cX N.room N.few N.len;rintro(h|⟨G2,U,hf⟩)
 ·have h:bj G.P.s<3:=h;omega
 ·have c:=U.mL;have c:bj G.P.s<=bj G2.P.s+3:=c;have s:=U.sl;have e:ck (jU G).l=73:=by rfl
  rw[e]at s;have l:κ G2.P.C=κ G.P.C:=U.len;have:=MN (G:=G2) U.sh ae (by simp[ck]) ae ae ae;simp_all
theorem YQ(N:gX 64 G b){r:Int}(h:pN (jU G) zz 1 (decide (128 < [(97:aj)].length)) (jL [97]) r G2):r=0/\kJ (jU G) 0 1 (jL [97]) G2/\ev G2=true:=by
 rcases h with⟨n,h,_⟩|⟨k,h,h2⟩
 ·grind [j0,jU,zz,Zr]
 ·have e:j0 (jU G).l zz 1=.ok 0:=Zr;rw[e]at h;cases h;rcases h2 with⟨h,_⟩|⟨_,_,h⟩|⟨_,h,t,f⟩
  ·cases h
  ·exact absurd h.2.2.2 (YP N)
  ·simp_all
theorem abG(N:gX 64 G b)(T:kJ (jU G) 0 1 (jL [97]) G2):∃x,G2.l=[x]/\cH x=cH (ec 1 zz 4):=by have h:G2.l.map cH=[cH (ec 1 zz 4)]:=T.strip;simp_all
theorem acd{x:ab}(h:cH x=cH (ec 1 zz 4)):x.id=1:=by
 have:(cH x).id=1:=nM
 exact this
theorem Wy(T:kJ (jU G) 0 1 (jL [97]) G2){x:ab}(hx:G2.l=[x])(hs:cH x=cH (ec 1 zz 4)):vw G2.P.C x 1=some (jL [97]):=by have:=T.rd x aa 1 ae;rw[this,bp ⟨acd hs,rfl⟩]
theorem aaa:jL [97]≠e9:=av
theorem abF(I:bq G2){x:ab}(hx:G2.l=[x])(hr:vw G2.P.C x 1=some (jL [97])):∃a b c:Int,[a,b,c].Nodup/\∀k∈[a,b,c],∃p,gC G2.P.C x.root p/\p.loc=k:=by
 have hm:x∈G2.l:=aa
 have T:=I.tr x hm;unfold vw at hr;have n10:e5 G2.P.C x.root 10≠hole:=λe=>by grind [j6,aaa]
 have ad:e5 G2.P.C x.root 10=bB (ca G2.P.C (e5 G2.P.C x.root 1)) 1:=lA G2.P.C x.root (i:=1) ae;have n1:e5 G2.P.C x.root 1≠hole:=λe=>n10 (by grind [o1,kW]);have e1:e5 G2.P.C x.root 1=bB (ca G2.P.C x.root) 0:=eN G2.P.C x.root (k:=0) ae;have n0:x.root≠hole:=λe=>n1 (by grind [o1,kW]);have i0:gC G2.P.C x.root (e5 G2.P.C x.root 0):=⟨n0,0,ae,rfl⟩;have i1:gC G2.P.C x.root (e5 G2.P.C x.root 1):=⟨n1,1,ae,rfl⟩;have i2:gC G2.P.C x.root (e5 G2.P.C x.root 10):=⟨n10,10,ae,rfl⟩;refine⟨(e5 G2.P.C x.root 0).loc,(e5 G2.P.C x.root 1).loc,(e5 G2.P.C x.root 10).loc,?_,?_⟩
 ·have d:∀a b,a<73->b<73->gC G2.P.C x.root (e5 G2.P.C x.root a)->gC G2.P.C x.root (e5 G2.P.C x.root b)->a≠b->(e5 G2.P.C x.root a).loc≠(e5 G2.P.C x.root b).loc:=λa b ha hb ia ib hn e=>hn (T.inj a b ha hb (I.si.lc x hm x hm _ _ ia ib e) ia.1);grind
 ·grind
theorem xF:∀{L:List Int},L.Nodup->(∀k∈L,0<=k)->(L.map Adu).Nodup:=λ{L} h h0=>by refine List.Pairwise.map Adu ?_ (List.Pairwise.imp_of_mem (S:=λa b=>a∈L/\b∈L/\a≠b) (λ{a b} ha hb hn=>⟨ha,hb,hn⟩) h);rintro a b⟨ha,hb,hn⟩e;have:=h0 a ha;have:=h0 b hb;omega
theorem aaw(N:gX 64 G b)(T:kJ (jU G) 0 1 (jL [97]) G2)(I:bq G2){L:List Int}(hn:L.Nodup)(hL:∀k∈L,∃x∈G2.l,∃p,gC G2.P.C x.root p/\p.loc=k):κ L<=3:=by
 have c:bj G.P.s<=bj G2.P.s+3:=T.us.mL;have m:G2.ms=G.ms:=T.us.ms;have l:κ G2.P.C=κ G.P.C:=T.len;obtain⟨h1,h3⟩:=az N.room N.len;have rg:∀k∈L,4<=k/\k<1024:=λk hk=>by obtain⟨x,hx,p,hp,rfl⟩:=hL k hk;exact⟨(gC.loc (I.tr x hx) hp).1,(gC.loc (I.tr x hx) hp).2.1⟩
 have nB:((G2.ms.map (·.loc)).map Adu).Nodup:=xF I.md (λk hk=>by obtain⟨q,hq,rfl⟩:=List.mem_map.mp hk;have:=I.ml q hq;omega)
 have sB:∀j∈(G2.ms.map (·.loc)).map Adu,j<1024/\G2.P.s j=2:=λj hj=>by obtain⟨k,hk,rfl⟩:=List.mem_map.mp hj;obtain⟨q,hq,rfl⟩:=List.mem_map.mp hk;have:=I.ml q hq;exact⟨ae,I.rB hq⟩
 have sL:∀j∈L.map Adu,j<1024/\G2.P.s j=2:=λj hj=>by obtain⟨k,hk,rfl⟩:=List.mem_map.mp hj;have h:=rg k hk;obtain⟨x,hx,p,hp,rfl⟩:=hL k hk;exact⟨ae,I.taken hx hp⟩
 have aa:∀a∈(G2.ms.map (·.loc)).map Adu,∀c∈L.map Adu,a≠c:=λa ha c hc e=>by obtain⟨k,hk,rfl⟩:=List.mem_map.mp ha;obtain⟨q,hq,rfl⟩:=List.mem_map.mp hk;obtain⟨k,hk,rfl⟩:=List.mem_map.mp hc;have h:=rg k hk;obtain⟨x,hx,p,hp,rfl⟩:=hL k hk;have:=I.ml q hq;exact I.mx q hq x hx p hp ae
 have key:=eU (((Aal 1024).filter (λk=>decide (G2.P.s k=1)))++(((G2.ms.map (·.loc)).map Adu)++L.map Adu)) ((Aal 60).map (· + 4)) (List.nodup_append.mpr ⟨(List.nodup_range.filter _),List.nodup_append.mpr ⟨nB,(xF hn (λk hk=>aP)),aa⟩,λa ha c hc e=>by
  have h1:=ia (List.mem_filter.mp ha).2;rcases List.mem_append.mp hc with hc|hc
  ·have:=(sB c hc).2;rw[<-e]at this;omega
  ·have:=(sL c hc).2;rw[<-e]at this;omega⟩) (λj hj=>by
  have hne:G2.P.s j≠0:=by
   rcases List.mem_append.mp hj with hj|hj
   ·have h1:=ia (List.mem_filter.mp hj).2;omega
   ·rcases List.mem_append.mp hj with hj|hj
    ·have:=(sB j hj).2;omega
    ·have:=(sL j hj).2;omega
  have:=mt (I.s0 j).mpr hne;exact List.mem_map.mpr ⟨j-4,List.mem_range.mpr ae,ae⟩)
 simp only[Aae,Aac,Acl]at key;have e:bj G2.P.s=κ ((Aal 1024).filter (λk=>decide (G2.P.s k=1))):=rfl;grind
theorem YO(N:gX 64 G b)(T:kJ (jU G) 0 1 (jL [97]) G2)(I:bq G2){x:ab}(hx:G2.l=[x])(hs:cH x=cH (ec 1 zz 4)){ks:List Int}{f:Int->Bool}(hk:ks.Nodup)(hf:∀k,(k∈ks/\f k=true)↔∃y∈G2.l,∃p,gC G2.P.C y.root p/\p.loc=k):κ (ks.filter f)=3:=by
 have up:=aaw N T I (L:=ks.filter f) (hk.filter f) (λk hk=>(hf k).mp (List.mem_filter.mp hk));obtain⟨a,c,d,hn,h⟩:=abF I hx (Wy T hx hs);have low:=eU [a,c,d] (ks.filter f) hn (λk hk=>by obtain⟨p,hp,e⟩:=h k hk;exact List.mem_filter.mpr ((hf k).mpr ⟨x,aa,p,hp,e⟩))
 grind
end
section
open Go.Shelf
theorem Rx(w:af)(base:Nat)(v:ah)(l:List Int)(h:Own bA 3 w base v l)(hl:κ l<=5000):Aaf Aag 61 #[v] w λe w'=>e=rt #[]/\∃l',l'.Perm l/\aC bA w' v l'/\Touch (λb=>v.ownBlock=some b) w w':=by
 by_cases h0:l=[]
 ·subst h0;have hr:=h.cv;obtain⟨a,cap,hv⟩:=hr.slice;rw[Aa5]at hv;subst hv;have ab:=Any.slices_Sort_int_none Jn a cap w;change Aaf Aag 61 _ _ _ at ab;refine ab.mono λe w' hh=>?_;grind [Touch.refl]
 ·have ad:=Fz.2 h0;obtain⟨_,h2⟩:=id h;rcases h2 with⟨_,hz⟩|⟨g,cap,cur,rfl,aX,ag,hn,hm,aD,aI⟩
  ·omega
  obtain⟨g',al,e1,_,hlt,hc,ar,_⟩:=h.row ad;simp only[Abh,Aai,Abm,and_true,true_and]at e1;obtain⟨rfl,rfl⟩:=e1;have hH:Holds (Acd .i64) w g 0 l.toArray:=λj hj=>by grind [bA]
  have ab:=Any.slices_Sort_int Jn g 0 cap l w hH hlt ae;change Aaf Aag 61 _ _ _ at ab;refine ab.mono λe w' hh=>?_;obtain⟨he,n,os,hw⟩:=hh;refine⟨he,l.mergeSort (λx y=>decide (x<=y)),List.mergeSort_perm _ _,?_,?_⟩
  ·have aN:κ (l.mergeSort (λx y=>decide (x<=y)))=κ l:=List.length_mergeSort _;have aH:=holds_grow (Acd .i64) (putRow (Acd .i64) (Sort.ahead w n) g 0 (l.mergeSort (λx y=>decide (x<=y))).toArray) os g 0 _ ao (holds_putRow (Acd .i64) (Sort.ahead w n) g 0 l.toArray (l.mergeSort (λx y=>decide (x<=y))).toArray (holds_ahead _ w n g 0 _ hH) aq);rw[hw];generalize l.mergeSort (λx y=>decide (x<=y))=l' at *;rw[<-aN];refine .inr ⟨g,0,cap,rfl,ae,ae,hm,λi hi=>?_⟩;have:=(aH i ae).1;grind [bA]
  ·rw[hw];unfold putRow mapBlock Sort.ahead grow;exact N4
theorem G8{l l':List Int}(h:l'.Perm l):jT l'=jT l:=by unfold jT;congr 1;grind [r7]
end
def x1(G:ch)(x:ab):List au:=x' x.root (ca G.P.C x.root) (λk=>ca G.P.C (bB (ca G.P.C x.root) k)) 0
def hW(G:ch)(k:Nat):List pM:=(G.l.take k).foldl (λL x=>h3 false L (x1 G x)) (h3 true [] G.ms)
section
variable {G:ch}
theorem lU(I:bq G){x:ab}(hx:x∈G.l)(p:au):p∈x1 G x↔gC G.P.C x.root p:=by unfold x1;rw[Hy (I.tr x hx)];exact⟨λh=>h.1,λh=>⟨h,by have:=(I.si.brt x hx p h).1;omega⟩⟩
def RN(I:bq G){x:ab}(hx:x∈G.l):κ (x1 G x)<=73:=w2 (λj hj=>dm ((I.tr x hx).S hj))
theorem oT{k:Nat}(hk:k<κ G.l):hW G (k+1)=h3 false (hW G k) (x1 G (recAt G.l k)):=by unfold hW;rw[eo hk,Fj,b0 hk];rfl
theorem ky(I:bq G):∀(k:Nat),k<=κ G.l->∀x∈hW G k,(x.1∈G.ms/\x.2=true)\/((∃y∈G.l,gC G.P.C y.root x.1)/\x.2=false)
 | 0,_,x,hx=>by
  rcases oU (show x∈h3 true [] G.ms from hx)with h|h
  ·cases h
  ·exact .inl h
 | k+1,hk,x,hx=>by
  rw[oT ae]at hx;rcases oU hx with h|⟨h,h2⟩
  ·exact ky I k ae x h
  ·have hm:=aL (show k<κ G.l from ae);exact .inr ⟨⟨_,hm,(lU I hm x.1).mp h⟩,h2⟩
theorem Iu{q:au}(hq:q∈G.ms):∀(k:Nat),k<=κ G.l->∃x∈hW G k,x.1.loc=q.loc
 | 0,_=>s6 (own:=true) (L:=[]) hq
 | k+1,hk=>by obtain⟨x,hx,e⟩:=Iu hq k ae;exact⟨x,by rw[oT ae];exact kT hx,e⟩
theorem Bc(I:bq G){j:Nat}(hj:j<κ G.l){q:au}(hq:gC G.P.C (recAt G.l j).root q):∀(k:Nat),j<k->k<=κ G.l->∃x∈hW G k,x.1.loc=q.loc
 | 0,h,_=>ae
 | k+1,h,hk=>by
  rw[oT ae];by_cases e:j=k
  ·subst e;exact s6 ((lU I (aL hj) q).mpr hq)
  ·obtain⟨x,hx,e2⟩:=Bc I hj hq k ae ae;exact⟨x,kT hx,e2⟩
theorem abb(I:bq G){q:au}(hq:q∈G.ms):0<=q.loc/\q.loc<=4096:=by have:=I.ml q hq;omega
theorem abC(I:bq G){x:ab}(hx:x∈G.l){p:au}(hp:gC G.P.C x.root p):0<=p.loc/\p.loc<=4096:=by have:=gC.loc (I.tr x hx) hp;omega
theorem ZL(I:bq G):Sk [] G.ms:=by refine⟨aq,λp hp q hq e=>?_,λq hq=>abb I hq⟩;have:=I.md;obtain⟨i,hi,rfl⟩:=jD hp;obtain⟨j,hj,rfl⟩:=jD hq;have:=List.pairwise_iff_getElem.mp this;grind
theorem ZM(I:bq G){k:Nat}(hk:k<κ G.l):Sk (hW G k) (x1 G (recAt G.l k)):=by
 have hm:=aL hk;refine⟨λx hx q hq e=>?_,λp hp q hq e=>I.si.lc _ hm _ hm p q ((lU I hm p).mp hp) ((lU I hm q).mp hq) e,λq hq=>abC I hm ((lU I hm q).mp hq)⟩;have hq:=(lU I hm q).mp hq;rcases ky I k ae x hx with⟨h,_⟩|⟨⟨y,hy,h⟩,_⟩
 ·exact absurd e.symm (I.mx _ h _ hm q hq)
 ·exact I.si.lc y hy _ hm x.1 q h hq e
theorem Iw(I:bq G)(i:Int):(∃x∈hW G (κ G.l),x.1.loc=i)↔∃n:Nat,i=(n:Int)/\n<1024/\G.P.s n=2:=by
 constructor
 ·rintro⟨x,hx,rfl⟩;have h:0<=x.1.loc/\x.1.loc<1024:=by
   rcases ky I _ (aE _) x hx with⟨h,_⟩|⟨⟨y,hy,h⟩,_⟩
   ·have:=I.ml _ h;omega
   ·have:=gC.loc (I.tr y hy) h;omega
  refine⟨x.1.loc.toNat,ae,ae,?_⟩;rcases ky I _ (aE _) x hx with⟨h,_⟩|⟨⟨y,hy,h⟩,_⟩
  ·exact I.rB h
  ·exact I.taken hy h
 ·rintro⟨n,rfl,hn,h2⟩;rcases(I.s2 n hn).mp h2 with⟨x,hx,p,hp,e⟩|⟨q,hq,e⟩
  ·grind [kz,Bc]
  ·obtain⟨y,hy,ey⟩:=Iu hq (κ G.l) (aE _);grind
def R8(L:List pM)(k:Int):Bool:=decide (∃x∈L,x.1.loc=k/\x.2=false)
theorem Gy(I:bq G)(k:Int):R8 (hW G (κ G.l)) k=true↔∃y∈G.l,∃p,gC G.P.C y.root p/\p.loc=k:=by
 unfold R8;rw[decide_eq_true_eq];constructor
 ·rintro⟨x,hx,e,h2⟩;rcases ky I _ (aE _) x hx with⟨_,h⟩|⟨⟨y,hy,h⟩,_⟩
  ·simp_all
  ·grind
 ·rintro⟨y,hy,p,hp,e⟩;obtain⟨j,hj,rfl⟩:=kz hy;obtain⟨x,hx,ex⟩:=Bc I hj hp (κ G.l) hj (aE _);rcases ky I _ (aE _) x hx with⟨h,_⟩|⟨_,h⟩
  ·exact absurd ex.symm (I.mx _ h _ hy p hp)
  ·grind
structure Seen(G:ch)(ks:List Int):Prop where
 nd:ks.Nodup
 all:∀k,k∈ks↔∃x∈hW G (κ G.l),x.1.loc=k
theorem Seen.set(I:bq G){ks:List Int}(S:Seen G ks):jT ks=aB (gy G.P.s) 4096:=by unfold jT;congr 1;funext i;unfold r7 gy;rw[Fe,S.all,Iw I];grind
end
theorem abm(x y:bJ)(W:af):(Ac3 10000 139 (.agg (k7 x)) (.agg (k7 y))).run Aag W=.ok (decide (x=y)) W:=by
 obtain⟨a,b⟩:=x;obtain⟨c,d⟩:=y;have e:decide ((⟨a,b⟩:bJ)=⟨c,d⟩)=((a==c) && (b==d)):=aP
 rw[e];clear e;show(Ac3 (9999+1) 139 (.agg #[i6 a,i6 b]) (.agg #[i6 c,i6 d])).run Aag W=_;rw[yH W 9999 139 _ _ aA aq];cases h:(a==c)<;>cases h1:(b==d);all_goals go_simp
theorem aan{a:Act}{o:Abi}(x1 x2:bR)(ho:o.op=.binOp .neq 139 x1 x2 139)(y:bJ)(h1:a.eval x1=.agg (k7 y))(h2:a.eval x2=.agg (k7 y))(W:af):(Abt a.eval o).run Aag W=.ok (.value (.bool false)) W:=by
 have e:(Ac3 Op.maxDepth 139 (.agg (k7 y)) (.agg (k7 y))).run Aag W=.ok (decide (y=y)) W:=abm y y W;rw[show decide (y=y)=true from aq]at e;unfold Abt;simp only[ho,h1,h2,binOp,Op.equal];have g:(eqGuard .neq 139 x1 x2 (.agg (k7 y)) (.agg (k7 y))).run Aag W=.ok () W:=by unfold eqGuard;go_simp
 simp only[Aa1,g,Aay,Ac7];rw[e];rfl
theorem Zm{l:List bJ}(h:dV w (.slice a n cap) l)(hk:k<κ l):∃b off,a=some ⟨b,off,none⟩/\b<w.heap.size/\w.rangeAt b (off+k*2) (k7 l[k]).toList:=by obtain⟨b,off,e,hb,_,hc⟩:=aG.get h Ca ae;exact Gf
theorem Kq(w:af)(va vb:ah)(l:List bJ)(ha:dV w va l)(hb:dV w vb l)(hl:κ l<=100000):Aaf Aag 63 #[va,vb] w λe w'=>e=.returned (.bool true)/\Up w w':=by
 obtain⟨a,ca,rfl⟩:=aG.slice ha;obtain⟨b,cb,rfl⟩:=aG.slice hb;obtain⟨n,hn⟩:=bE (κ l);rw[<-hn]at ha hb hl ⊢;obtain⟨HA,HB,HN⟩:=aW ha hb hn;have hne:((n:Int) != (n:Int))=false:=aq
 clear hn;go_in;go_wp2;go_loopw [13] (λi wr=>∃k:Nat,k<=n/\i=i6 k/\Up w wr) (λi _=>n-(Aaq i).toNat)
 case atStart=>exact⟨0,bG _,rfl,Up.refl _⟩
 case round=>
  obtain⟨k,hk,rfl,ar⟩:=hrel;have UR:=an ar;by_cases hlt:k<n
  ·have b3:((k:Int)<(n:Int))=True:=by simp;omega
   have KA:=an (show k<κ l from cr);obtain⟨ba,oa,ea,_,ra⟩:=Zm (aG.up HA UR) KA.out;obtain⟨bb,ob,eb,_,rb⟩:=Zm (aG.up HB UR) KA.out;subst ea;subst eb;obtain⟨y,hy⟩:=bE (l[k]'KA.out);rw[<-hy]at ra rb;obtain⟨RA,RB⟩:=aw ra rb;clear hy;go_wp2;have II:=an (TE y);refine e8 (S:=λW=>W.rangeAt ba (oa+k*2) (k7 y).toList/\W.rangeAt bb (ob+k*2) (k7 y).toList) aA ?_;change Acp _ _ _ _ _ 9 #[false,false,false,false,false,false,false,false,false] _ (wr.drew);have ud:=Up.drew (Up.refl wr);have F0:(λW=>W.rangeAt ba (oa+k*2) (k7 y).toList/\W.rangeAt bb (ob+k*2) (k7 y).toList) wr.drew:=⟨ud.range RA,ud.range RB⟩;generalize wr.drew=w3 at *;refine oP ?_;refine tb 3 rfl (yp (λW h=>h.1) II underlying139) ?_;refine ta 4 ?_;refine ta 5 ?_;refine ta 6 ?_;refine tb 7 rfl (yp (λW h=>h.2) II underlying139) ?_;refine tb 8 rfl (ya (h:=aan (.tmp 19) (.tmp 23) rfl y al al)) ?_;refine ng ?_;go_wp2;have e1:(k:Int)+1=((k+1:Nat):Int):=ae
   have KN:=an hlt;go_roundw
   case rel=>exact⟨k+1,hlt,rfl,(UR.trans ud)⟩
   case measure=>simp only[Aaq];have:=KN.out;omega
  ·have b3:((k:Int)<(n:Int))=False:=by simp;omega
   go_wp2;go_ret;simp;omega
def lH(vr vt:ah)(tw:Bool)(cA blocks:Int):Array ah:=#[vr,vt,.bool tw,.int .i64 cA,.int .i64 blocks]
theorem zH(w:af)(va vb:ah)(l:List bJ)(ha:dV w va l)(hb:dV w vb l)(hl:κ l<=100000)(cA blocks:Int):Aaf Aag 23 #[.agg (lH va vb false cA blocks)] w λe w'=>e=.returned (.bool true)/\Up w w':=by obtain⟨u1,B1⟩:=az (ai w (.cells (lH va vb false cA blocks) 65)) (aI.new w 65 (lH va vb false cA blocks));have c0:(w.alloc (.cells (lH va vb false cA blocks) 65)).cell? (ad w.heap.size 0)=some va:=B1.cell 0;have c1:(w.alloc (.cells (lH va vb false cA blocks) 65)).cell? (ad w.heap.size 1)=some vb:=B1.cell 1;have EQ:=an (Kq _ va vb l (aG.up ha u1) (aG.up hb u1) hl);have c2:(w.alloc (.cells (lH va vb false cA blocks) 65)).cell? (ad w.heap.size 2)=some (.bool false):=B1.cell 2;have C2:=an c2;obtain⟨a,ca,rfl⟩:=aG.slice ha;obtain⟨b,cb,rfl⟩:=aG.slice hb;clear c2;go_in;go_wp2_with(refine arm ?_);refine EQ.mono ?_;rintro e w2⟨rfl,u2⟩;have U2:=an (u1.trans u2);have c2:=u2.cell C2;clear c0 c1;exact uV
section
open Go.Maps
theorem ak.e6{α:Type}{f:α->List ah}{e:Aab}{base:Nat}{v:ah}{xs:List α}(h:ak f k e w base v xs){b:Nat}(hb:v.ownBlock=some b):∃C,aI w b e C:=by
 obtain⟨_,h2⟩:=h;rcases h2 with⟨rfl,_⟩|⟨g',cap,cur,rfl,_,hh,_⟩
 ·simp[Aan]at hb
 ·simp[Aan]at hb;subst hb;exact⟨cur,hh⟩
theorem abl{F:Nat->Prop}{w w':af}{v:ah}(h:bt w 0 v l)(T:Touch F w w')(hF:∀b C,(aI w b 90 C\/aI w b 87 C)->¬F b):bt w' 0 v l:=by obtain⟨ys,y1,y2,y3⟩:=h;exact⟨ys,y1,ak.ax y2 T (λb hb hf=>by obtain⟨C,hC⟩:=ak.e6 y2 hb;exact hF b C (.inl hC) hf),λy hy=>ak.ax (y3 y hy) T (λb hb hf=>by obtain⟨C,hC⟩:=ak.e6 (y3 y hy) hb;exact hF b C (.inr hC) hf)⟩
theorem bU.X8(A:bU w p gb H G){b:Nat}(hb:aI w b t C)(h1:vn t=false)(h2:t≠82):¬(PF H b\/b=p):=by
 rintro((rfl|rfl|h)|rfl)
 ·exact eS A.ga.pa.e6 hb uH rfl
 ·exact sA hb A.ga.pa.map uH rfl
 ·exact A.ga.pa.dev.jK hb uH uH uH h
 ·exact eS A.e6 hb (λe=>h2 e.symm) rfl
theorem bg.aac{w w':af}{p gb mb kb n:Nat}(h:bg w mb kb n M)(A:bU w p gb H G)(T:Touch (λk=>PF H k\/k=p) w w')(hk:¬(PF H kb\/kb=p)):bg w' mb kb n M:=by obtain⟨vb,a,b,c⟩:=h;exact⟨vb,a.ax T (A.X8 a av av),abl b T (λk C hC=>hC.elim (λh=>A.X8 h av av) (λh=>A.X8 h av av)),c.ax T hk⟩
def Yd(t:Aab):Bool:=vn t || decide (t=153) || decide (t=90) || decide (t=87) || decide (t=82)
def YZ(w:af)(b:Nat):Prop:=(∃t C,aI w b t C/\Yd t=false)\/∃es c,w.heap[b]?=some (.map es c)
theorem Pk(hb:aI w g t C)(ht:Yd t=true):¬YZ w g:=by
 rintro(⟨t',C',aB,h⟩|⟨es,c,h⟩)
 ·grind [eS]
 ·grind [aI]
theorem bU.aaU{w w':af}(A:bU w p gb H G){F:Nat->Prop}(T:Touch F w w')(hF:∀b,F b->YZ w b):bU w' p gb H G:=by
 have K:∀{g:Nat}{t:Aab}{C:Array ah},aI w g t C->Yd t=true->¬F g:=λhb ht h=>Pk hb ht (hF _ h);have R:∀{α:Type}{f:α->List ah}{k:Nat}{e:Aab}{v:ah}{xs:List α},ak f k e w 0 v xs->Yd e=true->∀b,v.ownBlock=some b->¬F b:=λh he b hb=>by obtain⟨C,hC⟩:=ak.e6 h hb;grind
 obtain⟨vb,vm,g1,⟨ys,y1,y2,y3⟩,om,pa⟩:=A.ga;refine⟨A.e6.ax T (K A.e6 rfl),vb,vm,g1.ax T (K g1 rfl),⟨ys,y1,ak.ax y2 T (R y2 rfl),λy hy=>ak.ax (y3 y hy) T (R (y3 y hy) rfl)⟩,ak.ax om T (R om rfl),pa.ax T ?_⟩;rintro b(rfl|rfl|h)
 ·exact K pa.e6 rfl
 ·obtain⟨C,hC,_⟩:=pa.map;exact K hC rfl
 ·obtain⟨v,D,_⟩:=pa.dev;rcases h with rfl|rfl|rfl|h
  ·exact K D.dev rfl
  ·exact K D.b1 rfl
  ·exact K D.b2 rfl
  ·exact R D.bL rfl b h
theorem bU.model{w w':af}{p gb mb kb n:Nat}(A:bU w p gb H G)(h:bg w mb kb n M)(T:Touch (λb=>b=mb\/b=kb) w w'):bU w' p gb H G:=by
 obtain⟨vb,a,b,c⟩:=h;refine A.aaU T (λb hb=>?_);rcases hb with rfl|rfl
 ·exact .inl ⟨_,_,a,rfl⟩
 ·obtain⟨_,D,⟨es,clock,hb,_⟩,_⟩:=c;exact .inr ⟨_,_,hb⟩
theorem XG(o:iR)(vd vk:ah):(prog.info? 33).map (·.size)=some (hX o vd vk).size:=al
def aaH(p mb kb n:Nat)(H:aS)(G:ch)(M:cO)(o:iR)(w:af)(e:Ab3)(w':af):Prop:=e=.returned (.bool true)/\∃s r G3 gb' H' vp M',Cv G o s r G3/\Step G M o s r M' G3/\bU w' p gb' H' G3/\bg w' mb kb (n+1) M'/\H'.h={H.h with vp:=vp}/\Touch (λk=>PF H k\/k=p\/k=mb\/k=kb) w w'/\r1 H H' w.heap.size vp
def rsv(F:Nat->Prop):As:=⟨F,λw=>∀n,F n->n<w.heap.size,λh T _ n hn=>eh (h n hn) T.size⟩
theorem SK(w:af)(p gb:Nat)(H:aS)(G:ch)(A:bU w p gb H G)(I:bq G)(B:py G)(mb kb n:Nat)(M:cO)(AM:bg w mb kb n M)(hn:n<900000)(SM:oq G M)(m1:M.st<=100000000)(m2:M.made<=100000000)(o:iR)(hq2:o.kind≠2/\o.kind≠7)(ad ak:Option Addr)(nd cd nk ck:Nat)(aF:o.kind=4->M.st=G.P.st)(hi:Sp w (.slice ad nd cd) o)(hd:κ o.data<=140737488351232)(hb1:o.data≠[]->∀k,(Acg ad nd cd).ownBlock=some k->k≠mb/\k≠kb/\¬PF H k/\k≠p/\k<w.heap.size)(aV:∀k,(PF H k\/k=p)->k≠mb/\k≠kb):Aaf Aag 9 #[.pointer (some ⟨p,0,none⟩),.pointer (some ⟨mb,0,none⟩),.agg (hX o (.slice ad nd cd) (.slice ak nk ck))] w (aaH p mb kb n H G M o w):=by
 obtain⟨IM,N⟩:=aw (TT I B SM m1 m2) (IE I B SM o);obtain⟨w0,rfl⟩:=bE w;have ao:∀k,(PF H k\/k=p)->k<w0.heap.size:=λk hk=>hk.elim (λh=>A.ga.pa.lt k h) (λh=>by subst h;exact A.e6.lt);have aE:=an (XG o (.slice ad nd cd) (.slice ak nk ck));have s:=Fr.start w0;go_in;go_wp2_with(refine fw s ?_;intro _ w s);refine(Yf w p gb H G (A.up s.pure) I B o hq2 (.slice ad nd cd) (.slice ak nk ck) ⟨hi.nm,hi.to,aC.up hi.bs s.pure⟩ hd).mono ?_;rintro e w3⟨sc,r,G3,gb',H',vp,rfl,hR,hP,hH,hT,hV⟩;obtain⟨b3,g3⟩:=az (s.e6 (t:=33) gB) ((s.f _ (cS (a:=bk _ 33 _)) _ rfl).2.resolve_left id);replace b3:=(b3.ax hT (λh=>by have:=ao _ h;omega)).range;have M3:=(AM.up s.pure).aac (A.up s.pure) hT (λh=>(aV _ h).2 rfl);obtain⟨O3,T3⟩:=az ((aC.up hi.bs s.pure).Wp hT (λhne k hk h=>by have h5:=hb1 hne k hk;exact h.elim h5.2.2.1 h5.2.2.2.1)) (Touch.and (Touch.bV (F:=λk=>PF H k\/k=p\/k=mb\/k=kb) s.pure) hT (λb hb=>.inl (hb.imp id .inl)));obtain⟨IR,SR⟩:=aw (show(prog.info? 60).map (·.size)=some (aD sc.val).size from by rw[dI,bT,sc.2]) (show(aD aM).size=(aD sc.val).size from by rw[bT,bT,sc.2];rfl);have S1:=s.pure.size;obtain⟨M',ST⟩:=Wf hq2 I B SM aF hR;have PK:(r=71/\hq o=true/\(jY M o).2.1=0)\/(r=71/\hq o=false/\r=((jY M o).2.1:Int)/\sc=(jY M o).1)\/((r==71)=false/\r=((jY M o).2.1:Int)/\sc=(jY M o).1):=by
  rcases ST.ag with⟨h1,h2,h3⟩|⟨h1,h2,h3⟩
  ·exact .inl ⟨h1,h2,h3⟩
  ·by_cases ab:r=71
   ·exact .inr (.inl ⟨ab,by simpa[ab]using h1,h2,h3⟩)
   ·exact .inr (.inr ⟨by simpa using ab,h2,h3⟩)
 obtain⟨MS,aB,aj⟩:=aW ST hR hH;clear hR hH ST aF I B SM A AM;obtain⟨s,OB⟩:=az (Fr.start w3) (λW (u:Up w3 W)=>show Sp W (.slice ad nd cd) o from⟨hi.nm,hi.to,aC.up O3 u⟩);rcases PK with⟨h1,h2,h3⟩|⟨h1,h2,h3⟩|⟨h1,h3⟩
 case' inl=>
  subst h1;go_wp2_with(refine fw s ?_;intro _ w s);refine(DB w o (.slice ad nd cd) (.slice ak nk ck)).mono ?_;refine ez ?_;intro w u s;have H2:=an h2;rw[h2];have z8:(((jY M o).2.1:Int)==0)=true:=by rw[h3];rfl
  replace h3:=an h3;clear h2;go_wp2_with(refine fw s ?_;intro _ w s);refine ka _ s (λ_ h=>h) (λw s=>?_) al;repeat refine kt ?_
  refine kj 2 ?_;refine CI (λw _ s=>La w mb kb n M (M3.up s.pure) IM.out.hl) ?_;rintro w _ s _ w'⟨m2,k2,rfl,aQ,aa,a2,u⟩;have e2:w3.heap.size<=m2/\w3.heap.size<=k2:=⟨bO s.pure.size aQ,bO s.pure.size aa⟩;have l2:m2<w'.heap.size/\k2<w'.heap.size:=by obtain⟨_,a,_,c⟩:=a2;exact⟨a.lt,c.lt⟩
  refine⟨_,rsv (λb=>b=m2\/b=k2),rfl,.one u (λb hb=>by rcases hb with rfl|rfl<;>first|exact l2.1|exact l2.2) (λb hb=>by rcases hb with rfl|rfl<;>exact⟨cq,ae⟩),?_⟩;repeat(first|refine kx ?_|refine kt ?_)
  refine ZT (λw u s=>Bg w m2 k2 n M (a2.up u) ae IM o hq2 (.slice ad nd cd) (.slice ak nk ck) (OB w s.pure) (λhne k hk=>?hne) N) ?_
  case hne=>have h5:=(hb1 hne k hk).2.2.2.2;have:=hT.size;exact⟨ae,ae⟩
  rintro w _ s _ w'⟨rfl,-,t2⟩;refine⟨_,_,rfl,.yb s (B:=rsv (λb=>b=m2\/b=k2)) .head t2 (λb hb=>?hb) (λb hb=>?hF),YY,?_⟩
  case hb=>exact eh (s.p _ cS b hb) t2.size
  case hF=>exact⟨eh (s.p _ cS b hb) t2.size,.inl hb⟩
  obtain⟨aq,au,ar⟩:=aW (show(prog.info? 60).map (·.size)=some (aD (jY M o).1.val).size from by rw[dI,bT,(jY M o).1.2]) (show(aD aM).size=(aD (jY M o).1.val).size from by rw[bT,bT,(jY M o).1.2];rfl) (dr (jY M o).1.val);repeat(first|refine kx ?_|refine kt ?_)
  refine kn (λ_ w u s=>?_);refine ks (λw s=>?_);repeat(first|refine kx ?_|refine kt ?_)
  refine kd (λw u s=>?_);go_wp2_with(refine fw s ?_;intro _ w s);refine br ?_;have PK:M'=M:=by
   rcases MS.out.pick with⟨_,_,h⟩|⟨h,_⟩
   ·exact h
   ·exact absurd ⟨rfl,H2⟩ h
  subst PK;exact⟨rfl,sc,71,G3,gb',H',vp,_,aB,MS,hP.up s.pure,(M3.up s.pure).more,aj,T3.iD s.pure,hV.mono S1⟩
 case' inr.inl=>
  replace h3:=an h3;have H2:=an h2;have aG:(r==71)=true:=uI
  clear h1;go_wp2_with(refine fw s ?_;intro _ w s);refine(DB w o (.slice ad nd cd) (.slice ak nk ck)).mono ?_;refine ez ?_;intro w u s;rw[h2];clear h2;have PK:M'=(jY M o).2.2:=by
   rcases MS.out.pick with⟨h4,h5,_⟩|⟨_,h⟩
   ·rw[H2.out]at h5;cases h5
   ·exact h
  replace PK:=an PK
 case' inr.inr=>
  replace h3:=an h3;have PK:M'=(jY M o).2.2:=by
   rcases MS.out.pick with⟨h4,h5,_⟩|⟨_,h⟩
   ·rw[h4]at h1;cases h1
   ·exact h
  replace PK:=an PK
 case' inr.inl|inr.inr=>
  obtain⟨ds,ay⟩:=bE ((jY M o).1);obtain⟨dc,ai⟩:∃x:Int,x=((jY M o).2.1:Int):=⟨_,rfl⟩;obtain⟨HC,HS⟩:=aw (h3.out.1.trans ai.symm) (h3.out.2.trans ay.symm);have rr:(r==dc)=true:=by rw[HC.out];simp
  clear h3;obtain⟨aq,au,ar⟩:=aW (show(prog.info? 60).map (·.size)=some (aD ds.val).size from by rw[dI,bT,ds.2]) (show(aD aM).size=(aD ds.val).size from by rw[bT,bT,ds.2];rfl) (dr ds.val);have EQ:∀W:af,(Ac3 10000 60 (.agg (aD sc.val)) (.agg (aD ds.val))).run Aag W=.ok true W:=λW=>by rw[LZ sc.val ds.val sc.2 ds.2 W,HS.out,fm rfl]
  go_wp2_with(refine fw s ?_;intro _ w s);have M5:=M3.up s.pure;have DD:=Bg _ mb kb n M M5 ae IM o hq2 (.slice ad nd cd) (.slice ak nk ck) (OB _ s.pure) (λhne k hk=>⟨(hb1 hne k hk).1,(hb1 hne k hk).2.1⟩) N;unfold Sh at DD;rw[<-ay,<-ai]at DD;clear ay ai;refine DD.mono ?_;rintro e w6⟨rfl,m6,t6⟩;have D5:=s.e6 (t:=60) gB;obtain⟨D6,P6,T6,s⟩:=iQ ((D5.ax t6 (λh=>bg.IB M5 D5 av h)).range) ((hP.up s.pure).model M5 t6) ((T3.iD s.pure).and t6 (λb hb=>.inl (hb.elim (λh=>.inr (.inr (.inl h))) (λh=>.inr (.inr (.inr h)))))) (Fr.start w6);go_wp2_with(refine fw s ?_;intro _ w s);refine br ?_;rw[<-PK.out]at m6;exact⟨rfl,sc,r,G3,gb',H',vp,_,aB,MS,P6.up s.pure,m6.up s.pure,aj,T6.iD s.pure,hV.mono S1⟩
end
def dv(h:iM)(C:List cQ)(m:Nat)(fl:Bool):As:=⟨cK h,λw=>DA w h C m fl,λh T hf=>h.ax T hf⟩
def ZJ(h:iM)(mb:Nat)(C:List cQ)(m:Nat)(fl:Bool)(sl:Nat->Nat):As:=⟨λn=>cK h n\/n=mb,λw=>DA w h C m fl/\cb w mb sl,λh T hf=>⟨h.1.ax T λb hb=>hf b (.inl hb),a7.ax h.2 T (hf _ (.inr rfl))⟩⟩
def mr(b:Nat)(v:ah)(ys:List gJ)(u:ah)(sp:List bJ)(z:ah)(ps:List au):As:=jn (os b v ys) (jn (qy rU 2 139 b u sp) (op b z ps))
theorem Cg{u:hL}(h:aI w g t (uC u)):w.rangeAt g 2 (a6 u.iL).toList:=λj v hj=>by
 match j,hj with
 | 0,hj=>exact(h.cell 2).trans hj
 | 1,hj=>exact(h.cell 3).trans hj
 | 2,hj=>exact(h.cell 4).trans hj
 | (k+3),hj=>simp[a6]at hj
section
variable {P:bu} {ops:Array Abi} {Q:Exit->Act->af->Prop} {F0:Nat->Prop} {x0 x w w':af} {L0 L L':List As} {a:Act} {o:Abi} {J:List Nat} {k mb pb:Nat} {h:iM} {C:List cQ} {m:Nat} {fl:Bool} {sl aa:Nat->Nat} {H:aS} {vp:ah} {P':bz}
theorem Fr.Y9(s:Fr F0 x0 L w)(hm:dv h C m fl∈L:=by exact gB):DA w h C m fl:=s.p _ hm
theorem Fr.gds(s:Fr F0 x0 L w)(hm:ZJ h mb C m fl sl∈L:=by exact gB):DA w h C m fl/\cb w mb sl:=s.p _ hm
theorem Fr.dt(s:Fr F0 x0 L w)(d:DA w' h C m fl)(t:Touch (cK h) w w')(hU:mK L (dv h C m fl) (dv h C m fl) L':=by exact tK):Fr F0 x0 L' w':=s.yb hU t d λn h=>⟨d.lt n h,.inl h⟩
theorem Fr.sn(s:Fr F0 x0 L w)(S:cb w' w.heap.size sl)(u:Up w w')(hU:mK L (dv h C m fl) (ZJ h w.heap.size C m fl sl) L':=by exact tK):Fr F0 x0 L' w':=s.yb hU (Touch.bV u) ⟨(s.p _ hU.mem).up u,S⟩ λn h=>by
 have h1:=a7.lt S;rcases h with h|h
 ·exact⟨((s.p _ hU.mem).up u).lt n h,.inl h⟩
 ·exact⟨ae,.inr ae⟩
theorem w9.pn{st ba:Nat}(s:Fr F0 x L w)(A:PA w' ⟨w.heap.size,mb,h⟩ ⟨C,m,fl,sl,st,ba⟩)(u:Up w w')(hU:mK L (ZJ h mb C m fl sl) (pl x ⟨w.heap.size,mb,h⟩ h.vp ⟨C,m,fl,sl,st,ba⟩) L':=by exact tK):w9 F0 x L w L' w':=.yb s hU (Touch.bV u) ⟨A,λ_ h=>.inl h⟩ λn hn=>⟨A.lt n hn,by
  rcases hn with hn|hn|hn
  ·exact .inr (y3 hn.symm)
  ·exact .inl (.inr hn)
  ·exact .inl (.inl hn)⟩
theorem Fr.tx(s:Fr F0 x L w)(S:cb w' mb sl)(T:Touch (·=mb) w w')(hU:mK L (pl x ⟨pb,mb,h⟩ h.vp P') (ZJ h mb P'.C P'.m P'.fl sl) L':=by exact tK):Fr F0 x L' w':=by have A:=(s.p _ hU.mem).1;have F:∀n,(ZJ h mb P'.C P'.m P'.fl sl).F n->PF ⟨pb,mb,h⟩ n:=λn hn=>.inr hn.symm;exact s.yb hU (T.mono λn hn=>.inr (.inl hn)) ⟨A.dev.ax T λb hb e=>A.s7 (e ▸ hb),S⟩ λn hn=>⟨eh (A.lt n (F n hn)) T.size,.inl (F n hn)⟩
theorem w9.ml{next:Nat}{l:List ab}{sp:List bJ}{ps:List au}{e:Ending}(s:Fr F0 x L w)(d:Sm (H.at vp) P' next l sp ps w e w')(hU:mK L (pl x H vp P') (pl x H vp P') L':=by exact tK):∃va vc ta tc za zc ys,e=.returned (.tuple #[.agg (aQ next (.slice va (κ l) vc)),.slice ta (κ sp) tc,.slice za (κ ps) zc,.int .i64 0])/\ys.map (·.d)=l/\w9 F0 x L w (mr x.heap.size (.slice va (κ l) vc) ys (.slice ta (κ sp) tc) sp (.slice za (κ ps) zc) ps::L') w':=by
 obtain⟨v,u,z,rfl,a1,a2,a3,a4⟩:=d;obtain⟨va,vc,rfl⟩:=a1.cA.slice;obtain⟨ta,tc,rfl⟩:=(ak.row a2 Ca).slice;obtain⟨za,zc,rfl⟩:=(ak.row a3 pw).slice;obtain⟨ys,rfl,b2,b3⟩:=a1;have f:∀n,(mr x.heap.size (.slice va (κ (ys.map (·.d))) vc) ys (.slice ta (κ sp) tc) sp (.slice za (κ ps) zc) ps).F n->w.heap.size<=n/\n<w'.heap.size:=λn h=>by
  rcases h with(h|⟨y,hy,h⟩)|h|h
  ·exact b2.aJ n h
  ·exact(b3 y hy).aJ n h
  ·exact a2.aJ n h
  ·exact a3.aJ n h
 refine⟨va,vc,ta,tc,za,zc,ys,rfl,rfl,w9.add s (w9.pg s a4 hU) ⟨⟨b2.mono s.t.size,λy hy=>(b3 y hy).mono s.t.size⟩,ak.mono a2 s.t.size,ak.mono a3 s.t.size⟩ f λE hE n h he=>?_⟩;have:=(f n h).1;rcases hU.sub E hE with rfl|hE
 ·have:=(s.f _ hU.mem n he).1;omega
 ·have:=(s.f E hE n he).1;omega
def VW(w:af)(h:iM)(mb:Nat)(C:List cQ)(m:Nat)(fl:Bool)(s:Nat->Nat)(D:DA w h C m fl/\cb w mb s):Aaf Aag 56 #[pz h.d,pz mb,.int .u64 0,.int .u64 0] w λe w'=>e=.returned (pz w.heap.size)/\PA w' ⟨w.heap.size,mb,h⟩ ⟨C,m,fl,s,0,0⟩/\Up w w':=vo w h mb C m fl s D.1 D.2 0 0
theorem kA{id:Nat}(D:As)(s:Fr F0 x0 L w)(h:∀w,Fr F0 x0 L w->RK P ops Q F0 x0 L0 L [] 0 a w)(hr:x4 L D L0:=by exact Se)(hm:P.follows .mixedOrders=true:=by kernel_rfl):(Code.region id ops true).wp P Q a w:=ka L0 s hr.sub h hm
theorem kbx{t:TypeId}{n:Nat}{C:Array ah}{a':Nat->Act}(h:∀g w,Up x w->Fr F0 x0 (bk g t C::L) w->RK P ops Q F0 x0 L0 (bk g t C::L) J (k+1) (a' g) w)(hJ:J.contains k=false:=by rfl)(hi:ops[k]?=some o:=by rfl)(ho:o.op=.box t (.tmp n):=by rfl)(hx:(a.eval (.tmp n)).cells=C:=by exact zcv)(ha:∀g,a.put o.dst (pz g)=a' g:=by intro _;first|(simp only[Act.put,fL];rfl)|rfl)(hw:Region.wanted o (yielded ops a.tmps)=true:=by rfl)(hc:(JP P ops (ml ops.size J k) k && Region.noSelect ops)=true:=by kernel_rfl)(hQ:∀c a w b,a.defers=b.defers->Q (.panic c) a w->Q (.panic c) b w:=by intro _ ⟨_,_⟩ _ ⟨_,_⟩ e h;cases e;exact h):RK P ops Q F0 x0 L0 L J k a x:=ko (λw u s K hK=>JD ho hx (hK _ _ (bk w.heap.size t C::L) (.res s (.one (ai _ _) (aI.new ..) (λn h=>by
  have h:n=w.heap.size:=h;have:=(aI.new w t C).lt;omega))) (λA _ h=>bn _ h) (by
  have:=h w.heap.size _ (u.trans (ai _ _)) (s.alloc t C);rw[ha];exact this))) hJ hi hw hc hQ
end
section
open Go.Maps
theorem J1(a:Option Addr)(n c:Nat)(s:Int):prog.built 65 [(1,.slice a n c),(3,i6 s)]=some (lH (nl) (.slice a n c) false s 0):=al
theorem V0(a:Option Addr)(n c:Nat)(a2:Option Addr)(n2 c2:Nat)(tw:Bool)(s b:Int):(lH (.slice a n c) (.slice a2 n2 c2) tw s b).all (·.oneCell')=true:=by simp[lH,Ac9]
theorem abc{G:ch}(I:bq G){q:pM}(hq:q∈hW G (κ G.l)):R8 (hW G (κ G.l)) q.1.loc=!q.2:=by
 rcases ky I _ (aE _) q hq with⟨h,e⟩|⟨⟨y,hy,h⟩,e⟩
 ·rw[e];cases hb:R8 (hW G (κ G.l)) q.1.loc with
  | false=>rfl
  | true=>obtain⟨y,hy,p,hp,e2⟩:=(Gy I _).mp hb;exact absurd e2 (I.mx _ h _ hy p hp)
 ·grind [Gy]
theorem Tj{f:Int->Bool}{ks:List Int}{k:Int}(h:f k=true):κ ((ks++[k]).filter f)=κ (ks.filter f)+1:=by simp[h]
theorem Xq{f:Int->Bool}{ks:List Int}{k:Int}(h:f k=false):κ ((ks++[k]).filter f)=κ (ks.filter f):=by simp[h]
theorem jw.len{w:af}{b r n mL:Nat}{D:DataW Unit}{L:List pM}{ks:List Int}(h:jw w b r n D L ks mL)(rg:∀x∈L,0<=x.1.loc/\x.1.loc<=4096):κ ks<=4097:=by
 have:=eU ks ((Aal 4097).map (λk:Nat=>(k:Int))) h.nd (λk hk=>by obtain⟨x,hx,rfl⟩:=h.sub k hk;have:=rg x hx;exact List.mem_map.mpr ⟨x.1.loc.toNat,List.mem_range.mpr ae,ae⟩)
 simp_all
def aaS(h:iM)(G:ch)(m:Nat)(fl:Bool)(w:af)(e:Ab3)(w':af):Prop:=∃vr vt ks,e=.returned (.tuple #[.agg (lH vr vt false (κ G.l:Int) (κ (ks.filter (R8 (hW G (κ G.l)))):Int)),.int .i64 0])/\Seen G ks/\dV w' vr (aB (gy G.P.s) 4096)/\dV w' vt (aB (gy G.P.s) 4096)/\DA w' h G.P.C m fl/\Touch (cK h) w w'
theorem AK{G:ch}(I:bq G):ox (gy G.P.s) (κ G.P.C):=λi hi=>by unfold gy at hi;have:=ia hi;have:=mt (I.s0 i).mpr ae;omega
theorem ach:zc Aag 65=lH nl nl false 0 0:=al
theorem abM:zc Aag 134=Cw (hole,false):=al
theorem jw.at{w:af}{b r n mL:Nat}{D:DataW Unit}{L:List pM}{ks:List Int}(h:jw w b r n D L ks mL):b<w.heap.size/\r<w.heap.size/\∀w',w'.heap[b]?=w.heap[b]?->w'.heap[r]?=w.heap[r]?->jw w' b r n D L ks mL:=by obtain⟨⟨left,⟨es,clock,since,seen,c0,hb,x1,x2,x3,hr,x4⟩,h2⟩,h3,h4,h5,h6⟩:=h;exact⟨(qf.1 hb).1,(qf.1 hr).1,λw' e1 e2=>⟨⟨left,⟨es,clock,since,seen,c0,e1.trans hb,x1,x2,x3,e2.trans hr,x4⟩,h2⟩,h3,h4,h5,h6⟩⟩
def mp(b n:Nat)(l:List pM):As:=⟨(·=b),λw=>Marks w b n l,λh T hf=>h.ax T (hf b rfl)⟩
def rs(b r n:Nat)(D:DataW Unit)(l:List pM)(ks:List Int)(mL:Nat):As:=⟨λk=>k=b\/k=r,λw=>jw w b r n D l ks mL,λh T hf=>h.at.2.2 _ (T.block b h.at.1 (hf b (.inl rfl))) (T.block r h.at.2.1 (hf r (.inr rfl)))⟩
def ic(n:Int):List ah:=[bA n]
theorem icw:gi ic 1:=⟨av,λ_=>rfl,λx u h=>by rw[jF.1 h];rfl⟩
theorem ZR{w:af}{b:Nat}{v:ah}{l:List Int}(h:ak ic 1 3 w b v l):Own bA 3 w b v l:=by
 have e:∀l:List Int,l.flatMap ic=l.map bA:=λl=>by
  induction l with
  | nil=>rfl
  | cons x l ih=>rw[Abd,Ab8];exact ct _ ih
 unfold ak at h;rw[e]at h;exact h
section
variable {F0:Nat->Prop} {x w w':af} {L L':List As} {b n n' r mL ab:Nat} {l l':List pM} {D:DataW Unit} {ks ar:List Int}
theorem Fr.mt(s:Fr F0 x L w)(m:Marks w' b n' l')(t:Touch (·=b) w w')(hU:mK L (mp b n l) (mp b n' l') L':=by exact tK):Fr F0 x L' w':=s.yb hU t m λk h=>⟨by rw[show k=b from h];exact m.lt,.inl h⟩
theorem Fr.m0(s:Fr F0 x L w):Fr F0 x (mp w.heap.size 0 []::L) (w.alloc (.map #[] 0)):=s.new (.one (ai ..) (Marks.made w) λn h=>by have h:n=w.heap.size:=h;have:=(Marks.made w).lt;omega)
theorem Fr.gm(s:Fr F0 x L w)(h:mp b n l∈L:=by exact gB):Marks w b n l:=s.p _ h
theorem Fr.gr(s:Fr F0 x L w)(h:rs b r n D l ks mL∈L:=by exact gB):jw w b r n D l ks mL:=s.p _ h
theorem Fr.rg(s:Fr F0 x L w)(R:jw w' b w.heap.size n D l [] mL)(g:w.grownBy w' none)(hU:mK L (mp b n l) (rs b w.heap.size n D l [] mL) L':=by exact tK):Fr F0 x L' w':=s.yb hU (Touch.be g λk e=>by cases e) R λk h=>by
 have:=R.at;rcases h with rfl|rfl
 ·exact⟨this.1,.inl rfl⟩
 ·exact⟨this.2.1,.inr (aE _)⟩
theorem Fr.rn(s:Fr F0 x L w)(R:jw w' b r n D l ar ab)(g:w.grownBy w' (some r))(hU:mK L (rs b r n D l ks mL) (rs b r n D l ar ab) L':=by exact tK):Fr F0 x L' w':=s.yb hU (Touch.be g λk e=>.inr (dC e).symm) R λk h=>by
 have:=R.at;rcases h with rfl|rfl
 ·exact⟨this.1,.inl (.inl rfl)⟩
 ·exact⟨this.2.1,.inl (.inr rfl)⟩
end
theorem C3(w:af)(h:iM)(G:ch)(m:Nat)(ff:Bool)(D:DA w h G.P.C m ff)(I:bq G)(R:Ring G)(b:List aj)(K:W3 G b):Aaf Aag 22 #[.pointer (some ⟨h.d,0,none⟩)] w (aaS h G m ff w):=by
 obtain⟨HI,HK,LN⟩:=aW I K I.ln;obtain⟨⟨tx,us,iL,ul,uS⟩,hu⟩:=bE (G.u);obtain rfl:uS=(κ G.P.C:Int):=by have:=K.ub.1;rwa [<-hu]at this
 obtain rfl:ul=40:=by have:=K.ub.2.1;rwa [<-hu]at this
 obtain rfl:us=G.P.ba:=by have:=K.ub.2.2.1;rwa [<-hu]at this
 refine Oq ?_;intro HU BE;obtain⟨au,EX⟩:=aw (AK I) (show k9 G.P.C iL b (iK (κ G.P.C) (aB (gy G.P.s) 4096)) G.ms from Ud);obtain⟨w0,rfl⟩:=bE w;have s:=Fr.from (A:=dv h G.P.C m ff) D D.lt;clear D I R K hu;go_in;go_wp2_with(refine fw s ?_;intro _ w s);refine(tV _ h _ m ff s.Y9).mono ?_;rintro e _⟨rfl,rfl⟩;go_wp2_with fail;refine(BE _ s.Y9).mono ?_;rintro e w⟨rfl,d2,t2⟩;have s:=s.dt d2 t2;clear d2 t2 BE;go_wp2_with(refine fw s ?_;intro _ w s);refine kb s (λw s=>?_);repeat refine kt ?_
 refine kc (λw u s=>kK w h _ m ff s.Y9) ?_;rintro w u s e _⟨rfl,rfl⟩;refine nj ?_;repeat refine kt ?_
 refine kd (λw u s=>?_);go_wp2_with fail;refine(kK w h _ m ff s.Y9).mono ?_;rintro e _⟨rfl,rfl⟩;go_wp2_with fail;refine(B1 w (κ G.P.C) F2 F2).mono ?_;rintro e w5⟨rfl,s5,u5⟩;have s:=s.sn s5 u5;go_wp2_with fail;refine(VW _ h _ _ m ff _ s.gds).mono ?_;rintro e w6⟨rfl,pa,uu⟩;have s:=(w9.pn s pa uu).s;go_wp2_with(refine fw s ?_;intro _ w s);have ML:=DE _ _ ⟨G.P.C,m,ff,jZ (κ G.P.C),0,0⟩ s.pa iL b _ G.ms EX G.next G.l HK.Zp HI.wf HI.ik.aa0 LN (gy G.P.s) au rfl FP
 refine ML.mono ?_;clear ML;intro e w7 hl;obtain⟨va,vc,ta,tc,za,zc,ys,rfl,aF,nx⟩:=w9.ml s hl;have HY:=an aF;have s:=nx.s;clear nx hl aF pa uu s5 u5;obtain⟨BU,aP⟩:=az (J1 ta (κ (aB (gy G.P.s) 4096)) tc (κ G.l:Int)) (@run_makeMap Aag);go_wp2_with(refine fw s ?_;intro _ w s);have s:=s.m0;have q:=s.p (mr _ _ ys _ _ _ _) gB;refine(DV _ _ 0 [] s.gm (.slice za (κ G.ms) zc) G.ms (ak.row q.2.2 pw) FP (ZL HI) true).mono ?_;rintro e w⟨rfl,m11,t11⟩;have s:=s.mt (show Marks w _ (κ G.ms+73*0) (hW G 0)from by rw[Abn]at m11;exact m11) t11;clear q m11 t11;have p2:(Abz (lH nl (.slice ta (κ (aB (gy G.P.s) 4096)) tc) false (κ G.l:Int) 0).toList 2 (#[.bool false]:Array ah).toList).toArray=lH nl (.slice ta (κ (aB (gy G.P.s) 4096)) tc) false (κ G.l:Int) 0:=rfl;go_wp2_with(refine fw s ?_;intro _ w s);change Fr _ w0 (mp ?mk _ _::bk ?q11 _ _::?rest) _ at s;go_loopw [73] (λi wr=>∃k:Nat,k<=κ G.l/\i=.int .i64 k/\Fr (cK h) w0 (mp ?mk (κ G.ms+73*k) (hW G k)::bk ?q11 65 (lH nl (.slice ta (κ (aB (gy G.P.s) 4096)) tc) false (κ G.l:Int) 0)::?rest) wr) (λi _=>κ G.l-(Aaq i).toNat)
 case atStart=>exact⟨0,bG _,rfl,s⟩
 case round=>
  obtain⟨k,hk,rfl,s⟩:=hrel;have aH:wr.cell? ⟨_,1,none⟩=some (.slice va (κ G.l) vc):=(s.e6 (t:=73) gB).cell 1;obtain⟨aI,n32⟩:=az HI.sI HI.ik.len;by_cases hlt:k<κ G.l
  ·have b3:((k:Int)<(κ G.l:Int))=True:=by simp;omega
   have KN:=an hlt;have hm:=aL KN;obtain⟨bb,off,rfl,hbs,da,dc,rg,dp⟩:=bZ (bt.cA ⟨ys,HY,(s.p (mr _ _ ys _ _ _ _) gB).1⟩) KN;have RG:=an (cd rg).2.2.2.2.2.2.2.1;clear rg dp;go_wp2_with(refine cM 87 82 (a6 (recAt G.l k).root) RG ?_);have TL:=Jt _ _ ⟨G.P.C,m,ff,jZ (κ G.P.C),0,0⟩ s.pa (recAt G.l k).root 0 _ (λj=>ca G.P.C (bB (ca G.P.C (recAt G.l k).root) j)) (HI.tr _ hm).F (λj hj=>(HI.tr _ hm).S hj);refine TL.mono ?_;clear TL;rintro e w⟨v2,rfl,ov,pg⟩;replace ov:a8 w _ v2 (x1 G (recAt G.l k)):=ov;have s:=(w9.pt s pg.1 pg.2 (λ_ h=>.inl h) ov).s;obtain⟨LT,SU⟩:=aw (RN HI hm) (oT KN);go_wp2_with fail;refine(DV _ _ _ _ s.gm v2 (x1 G (recAt G.l k)) (ak.row s.I0 pw) (by have:=LT.out;omega) (ZM HI KN) false).mono ?_;rintro e w⟨rfl,m14,t14⟩;have s:=s.mt (show Marks w _ (κ G.ms+73*(k+1)) (hW G (k+1))from by rw[SU.out];exact m14.mono (by have:=LT.out;omega)) t14;clear m14 t14;go_wp2_with fail;go_roundw
   case rel=>exact⟨k+1,ae,aq,s.rem .head⟩
   case measure=>simp only[Aaq];omega
  ·obtain rfl:k=κ G.l:=by omega
   have b3:((κ G.l:Int)<(κ G.l:Int))=False:=aq
   go_wp2_with(at_range;refine R0 rfl (.tmp 99) rfl rfl s.gm ?_);intro w DM aG ai g15 aD;have ax:=an s.gm.rg;have s:=s.rg ai g15;clear ai g15 aD;change Fr _ w0 (rs ?mk ?r _ DM _ _ _::_) _ at s;go_wp2_with fail;go_loopw [16] (λav wr=>∃ks mL,Fr (cK h) w0 (qy ic 1 3 w0.heap.size av ks::rs ?mk ?r (κ G.ms+73*κ G.l) DM (hW G (κ G.l)) ks mL::bk ?q11 65 (lH nl (.slice ta (κ (aB (gy G.P.s) 4096)) tc) false (κ G.l:Int) (κ (ks.filter (R8 (hW G (κ G.l)))):Int))::?rest) wr) (λ_ wr=>wr.rangeLeft ?mk ?r)
   case atStart=>exact⟨[],_,s.Z7⟩
   case round=>
    obtain⟨ks,mL,s⟩:=hrel;have RS:=an s.gr;have hkl:κ ks<=4097:=RS.len ax;obtain⟨aa,ac,rfl⟩:=(ak.row s.row icw).slice;go_wp2_with(at_next;refine WM rfl (.tmp 100) rfl rfl RS ?_ ?_)
    ·intro ad;have S:Seen G ks:=⟨RS.nd,λk=>by simpa using ad k⟩;clear ad;have HS:=an S;clear S;have OA:=s.row (f:=ic);go_wp2_with fail;refine(Rx _ w0.heap.size _ ks (ZR OA) ae).mono ?_;rintro e w⟨rfl,ar,perm,on,t21⟩;have s:=s.yb .head (B:=rsv (λn=>(Acg aa (κ ks) ac).ownBlock=some n)) t21 (λn h=>eh (OA.aJ n h).2 t21.size) (λn h=>⟨eh (OA.aJ n h).2 t21.size,.inl h⟩);clear OA t21;go_wp2_with fail;refine(tz _ _ ar on).mono ?_;rintro e w⟨vr,rfl,ag,u⟩;rw[G8 perm,HS.set HI]at ag;obtain⟨ra,rc,rfl⟩:=(ak.row ag Ca).slice;have s:=s.new (A:=qy rU 2 139 w0.heap.size _ _) (.one u (ag.mono s.t.size) ag.aJ);clear ag u on perm;obtain⟨c,hc⟩:=bE (κ (ks.filter (R8 (hW G (κ G.l)))));have HC:=an hc;rw[<-hc]at s;clear hc;have p0:(Abz (lH nl (.slice ta (κ (aB (gy G.P.s) 4096)) tc) false (κ G.l:Int) (c:Int)).toList 0 (#[.slice ra (κ (aB (gy G.P.s) 4096)) rc]:Array ah).toList).toArray=lH (.slice ra (κ (aB (gy G.P.s) 4096)) rc) (.slice ta (κ (aB (gy G.P.s) 4096)) tc) false (κ G.l:Int) (c:Int):=rfl;go_wp2_with(refine fw s ?_;intro _ w s);refine br ?_;have A:=s.pa (P:=⟨G.P.C,m,ff,jZ (κ G.P.C),0,0⟩);exact⟨.slice ra (κ (aB (gy G.P.s) 4096)) rc,.slice ta (κ (aB (gy G.P.s) 4096)) tc,ks,by rw[<-HC.out];rfl,HS,ak.row s.row Ca,ak.row (s.p (mr _ _ ys _ _ _ _) gB).2.1 Ca,A.dev,s.t⟩
    ·unfold Y2;intro q hq aC w ab ao hlt g16 aE ay;obtain⟨NQ,al⟩:=aw (abc HI hq) hlt;obtain⟨s,ii⟩:=az (s.rn ao g16) AG;clear hq aC ao hlt g16 aE;obtain⟨c,hc⟩:=bE (κ (ks.filter (R8 (hW G (κ G.l)))));have n4:c<=4097:=by rw[hc];exact bO (qh _ _) hkl
     have HC:=an hc;rw[<-hc]at s;clear hc;have p4:(Abz (lH nl (.slice ta (κ (aB (gy G.P.s) 4096)) tc) false (κ G.l:Int) (c:Int)).toList 4 (#[.int .i64 ((c:Int)+1)]:Array ah).toList).toArray=lH nl (.slice ta (κ (aB (gy G.P.s) 4096)) tc) false (κ G.l:Int) ((c:Int)+1):=rfl;obtain⟨q,ow⟩:=q;cases ow with
     | true=>
      go_wp2_with(first|(refine fw s ?_;intro _ w s)|((with_reducible refine dS 41 1 _ ?_);refine fal #[.int .i64 q.loc] 3 (λg=>cC g 1 1) s ?_;intro _ w s)|(at_builtin;refine ZK icw q.loc s ?_;intro _ _ w s));go_roundw
      case rel=>exact⟨ks++[q.loc],ab,by rw[Xq NQ.out,<-HC.out];exact s.sl⟩
      case measure=>rw[RS.out.left_eq,s.gr.left_eq];exact al
     | false=>
      go_wp2_with(first|(refine fw s ?_;intro _ w s)|((with_reducible refine dS 41 1 _ ?_);refine fal #[.int .i64 q.loc] 3 (λg=>cC g 1 1) s ?_;intro _ w s)|(at_builtin;refine ZK icw q.loc s ?_;intro _ _ w s));go_roundw
      case rel=>exact⟨ks++[q.loc],ab,by rw[Tj NQ.out,<-HC.out,show((c+1:Nat):Int)=(c:Int)+1 from rfl];exact s.sl⟩
      case measure=>rw[RS.out.left_eq,s.gr.left_eq];exact al
end
theorem R9:∀W:af,(Ab9 65).run Aag W=.ok (.agg (lH (nl) (nl) false 0 0)) W:=wI
theorem OH{f:Nat->Bool}(hj:j<4096):(j:Int)∈cI (aB f 4096)↔f j=true:=by grind [qc]
theorem RI(I:bq G)(n3:∀i,G.P.s i≠3):iX (jZ (κ G.P.C)) (cI (aB (gy G.P.s) 4096))=G.P.s:=by
 funext j;obtain⟨ln,h0,h3⟩:=cX I.ln (I.s0 j) (I.s3 j);rw[B6 _ _ (λi hi=>?_)]
 ·grind [OH,gy,jZ]
 ·have:=xB _ _ hi;obtain⟨n,rfl⟩:∃n:Nat,i=(n:Int):=⟨i.toNat,ae⟩;grind [OH,gy]
def Az(G:ch)(m:Nat)(fl:Bool):ch:=⟨⟨G.P.C,m,fl,G.P.s,G.P.ba+1,G.P.ba⟩,G.next,G.l,G.ms,G.u⟩
def abQ(h:iM)(G:ch)(m:Nat)(fl:Bool)(w:af)(e:Ab3)(w':af):Prop:=∃gb H,e=.returned (.tuple #[.pointer (some ⟨gb,0,none⟩),.int .i64 0])/\H.h=h/\GA w' gb H (Az G m fl)/\Touch (cK h) w w'/\w.heap.size<=gb/\w.heap.size<=H.pb/\w.heap.size<=H.mb
theorem KJ(w:af)(h:iM)(G:ch)(m:Nat)(ff:Bool)(D:DA w h G.P.C m ff)(I:bq G)(R:Ring G)(b:List aj)(K:W3 G b)(hB:G.u.du<=100000000/\G.next<=100000000/\G.P.ba<=100000000):Aaf Aag 50 #[.pointer (some ⟨h.d,0,none⟩)] w (abQ h G m ff w):=by
 obtain⟨HI,HK,LN⟩:=aW I K I.ln;obtain⟨⟨tx,us,iL,ul,uS⟩,hu⟩:=bE (G.u);obtain rfl:uS=(κ G.P.C:Int):=by have:=K.ub.1;rwa [<-hu]at this
 obtain rfl:ul=40:=by have:=K.ub.2.1;rwa [<-hu]at this
 obtain rfl:us=G.P.ba:=by have:=K.ub.2.2.1;rwa [<-hu]at this
 refine Oq ?_;intro HU BE;have g1:((tx:Int)>281474976710652)=False:=by have:=hB.1;rw[<-hu]at this;apply cG;simp only at this;omega
 have g2:((G.next:Int)>281474976710652)=False:=by apply cG;omega
 have g3:((G.P.ba:Int)>281474976710652)=False:=by apply cG;omega
 have hba:G.P.ba<=100000000:=hB.2.2;obtain⟨au,EX⟩:=aw (AK I) (show k9 G.P.C iL b (iK (κ G.P.C) (aB (gy G.P.s) 4096)) G.ms from Ud);obtain⟨w0,rfl⟩:=bE w;have s:=Fr.from (A:=dv h G.P.C m ff) D D.lt;clear D I R K hu hB;go_in;go_wp2_with fail;refine(tV _ h _ m ff s.Y9).mono ?_;rintro e _⟨rfl,rfl⟩;go_wp2_with fail;refine(BE _ s.Y9).mono ?_;rintro e w⟨rfl,d2,t2⟩;have s:=s.dt d2 t2;clear d2 t2 BE;go_wp2_with(refine fw s ?_;intro _ w s);refine kb s (λw s=>?_);repeat refine kt ?_
 refine kc (λw u s=>kK w h _ m ff s.Y9) ?_;rintro w u s e _⟨rfl,rfl⟩;refine nj ?_;repeat refine kt ?_
 refine kd (λw u s=>?_);go_wp2_with fail;refine(kK w h _ m ff s.Y9).mono ?_;rintro e _⟨rfl,rfl⟩;go_wp2_with fail;refine(B1 w (κ G.P.C) F2 F2).mono ?_;rintro e w5⟨rfl,s5,u5⟩;have s:=s.sn s5 u5;go_wp2_with fail;refine kA (ZJ h _ G.P.C m ff _) s (λw s=>?_);repeat refine kt ?_
 refine kj 3 ?_;refine kj 4 ?_;refine ZT (λw u s=>VW w h _ _ m ff _ s.gds) ?_;rintro w u s e w'⟨rfl,pa,uu⟩;refine⟨_,_,rfl,.pn s pa uu,YY,?_⟩;repeat(first|refine kx ?_|refine kt ?_)
 refine ZT (λw u s=>DE w _ ⟨G.P.C,m,ff,jZ (κ G.P.C),0,0⟩ s.pa iL b _ G.ms EX G.next G.l HK.Zp HI.wf HI.ik.aa0 LN (gy G.P.s) au rfl FP) ?_;rintro w u s e w' hl;obtain⟨va,vc,ta,tc,za,zc,ys,rfl,aF,nx⟩:=w9.ml s hl;have HY:=an aF;refine⟨_,_,rfl,nx,YY,?_⟩;repeat refine kt ?_
 refine kn (λ_ w u s=>?_);refine ks (λw s=>?_);repeat refine kt ?_
 refine kd (λw u s=>?_);go_wp2_with(refine fw s ?_;intro _ w s);obtain⟨q,A⟩:=az (s.p (mr _ _ ys _ _ _ _) gB) (s.pa (P:=⟨G.P.C,m,ff,jZ (κ G.P.C),0,0⟩));have TX:=Mg _ (.slice ta (κ (aB (gy G.P.s) 4096)) tc) _ (ak.row q.2.1 Ca) (λa k c e=>(ak.aJ q.2.1 _ sY).2) _ _ A.map;refine TX.mono ?_;clear TX A;rintro e w11⟨rfl,aa,t11⟩;rw[RI HI.out HK.out.no3]at aa;have s:=s.tx aa t11;clear q aa t11;go_wp2_with(refine fw s ?_;intro _ w s);refine kA (ZJ h _ G.P.C m ff _) s (λw s=>?_);iterate 4 refine kt ?_
 refine kt (v:=.int .u64 ((G.P.ba:Int)+1)) ?_ (hy:=ya (h:=by intro _;go_simp;have:=dP (G.P.ba+1) ae;simpa using this));iterate 2 refine kt ?_
 refine kj 8 ?_;refine kj 9 ?_;refine kj 10 ?_;refine ZT (λw u s=>vo w h _ _ m ff _ s.gds.1 s.gds.2 (G.P.ba+1) G.P.ba) ?_;rintro w u s e w'⟨rfl,pa,uu⟩;refine⟨_,_,rfl,.pn s pa uu,YY,?_⟩;have BG:=xi w.heap.size G.next va (κ G.l) vc za (κ G.ms) zc ⟨tx,G.P.ba,iL,40,(κ G.P.C:Int)⟩
 repeat(first|refine kx ?_|refine kt ?_)
 refine kbx (λgb w u s=>?_);repeat refine kt ?_
 refine kd (λw u s=>?_);go_wp2_with fail;refine br ?_;obtain⟨A,q,hb⟩:=cX s.pa (s.p (mr _ _ ys _ _ _ _) gB) (s.e6 (t:=153) gB);exact⟨_,⟨_,_,h⟩,rfl,rfl,⟨_,_,by show aI _ _ _ (fD _ G.next _ _ G.u);rw[<-HU.out];exact hb,bt.mono ⟨ys,HY,q.1⟩ (bG _),ak.mono q.2.2 (bG _),A⟩,s.t,(s.f _ (gB (b:=bk _ 153 _)) _ rfl).2.resolve_left (A.dev.jK hb av av av),(s.f _ (gB (b:=pl _ _ _ _)) _ (.inl rfl)).2.resolve_left A.tj,(s.f _ (gB (b:=pl _ _ _ _)) _ (.inr (.inl rfl))).2.resolve_left A.s7⟩
def aaN(h:iM)(G:ch)(m:Nat)(fl:Bool)(w:af)(e:Ab3)(w':af):Prop:=∃p gb H,e=.returned (.tuple #[.pointer (some ⟨p,0,none⟩),.int .i64 0])/\H.h=h/\bU w' p gb H (Az G m fl)/\Touch (cK h) w w'/\w.heap.size<=p/\w.heap.size<=gb/\w.heap.size<=H.pb/\w.heap.size<=H.mb
theorem Q5(w:af)(h:iM)(G:ch)(m:Nat)(fl:Bool)(D:DA w h G.P.C m fl)(I:bq G)(R:Ring G)(b:List aj)(K:W3 G b)(hB:G.u.du<=100000000/\G.next<=100000000/\G.P.ba<=100000000):Aaf Aag 20 #[.pointer (some ⟨h.d,0,none⟩)] w (aaN h G m fl w):=by
 obtain⟨FO,BP⟩:=aw (KJ w h G m fl D I R b K hB) zP;clear D I R K hB;go_in;go_wp2_with fail;refine FO.mono ?_;rintro e w2⟨gb,H,rfl,hh,ga,t2,h1,h2,h3⟩;have ab:=an (BP gb);have u3:=ai w2 (.cells #[.pointer (some ⟨gb,0,none⟩)] 82);obtain⟨aa,B3,T3,S2,ad,HH⟩:=iC (ga.up u3) (aI.new w2 82 #[.pointer (some ⟨gb,0,none⟩)]) (t2.iD u3) t2.size (Adc h1 (Adc h2 h3)) hh;clear hh ga t2 u3 h1 h2 h3 FO;go_wp2_with(first
  | ((with_reducible refine eR 82 #[(0,.tmp 14)] ?_);refine kQ rfl 82 0 (.tmp 14) rfl _ rfl #[.pointer (some ⟨gb,0,none⟩)] ab ?_)
  | refine gY 82 15 #[.pointer (some ⟨gb,0,none⟩)] ?_)
 go_ret2;exact⟨w2.heap.size,gb,H,rfl,HH,⟨B3,aa⟩,T3,S2,ad.1,ad.2.1,ad.2.2⟩
theorem XD(I:bq G)(K:W3 G b)(m:Nat)(fl:Bool):bq (Az G m fl):=by
 have hs:=K.ub.2.2.2.1;have e:Az G m fl={G with P:={G.P with m:=m,fl:=fl}}:=by grind [Az]
 rw[e];exact⟨I.ik,I.si,I.tr,I.md,I.ml,I.mx,I.s0,I.s2,I.s3,I.sb,I.st,I.ln,I.ft⟩
structure JR(G:ch)(b:List aj):Prop where
 inv:bq G
 ring:Ring G
 dsk:W3 G b
 bd:G.u.du<=100000000/\G.next<=100000000/\G.P.ba<=100000000
 m:G.P.m=0
 one:∃x,G.l=[x]/\cH x=cH (ec 1 zz 4)/\vw G.P.C x 1=some (jL [97])
 three:∀(ks:List Int)(f:Int->Bool),ks.Nodup->(∀k,(k∈ks/\f k=true)↔∃y∈G.l,∃p,gC G.P.C y.root p/\p.loc=k)->κ (ks.filter f)=3
theorem Ww{G G2:ch}(N:gX 64 G b)(T:kJ (jU G) 0 1 (jL [97]) G2):py G2:=by
 obtain⟨h2,h3,h4⟩:=cX T.st T.m T.u;have e1:G2.next=2:=T.next
 have e2:G2.P.st=G.P.st:=h2;have e3:G2.P.m<=G.P.m+3:=h3;have e4:G2.u=G.u:=h4;exact⟨ae,by rw[e2,N.st];omega,by rw[N.m]at e3;omega,by rw[e4,N.tx];omega⟩
theorem Sz{G G2 G3:ch}{b b3:List aj}(N:gX 64 G b)(T:kJ (jU G) 0 1 (jL [97]) G2)(f:ev G2=true)(hb:κ b3=ck G2.l)(K:Cy G2 b3)(h:mO G2 b3 G3):JR G3 b3:=by
 obtain⟨I2,F2⟩:=az (T.inv f) (Ww N T);have R1:Ring (jU G):=⟨N.ring.le,N.ring.here⟩;obtain⟨ats,CO⟩:=Ey I2 h;obtain⟨D3,R3⟩:=Ex I2 F2 (R1.congr (Zq N) T.u T.Sb) h K;obtain⟨x,hx,hs⟩:=abG N T;have hm:x∈G2.l:=aa
 obtain⟨st,nx,tx,ab⟩:=iQ F2.st F2.nx F2.tx CO.ba;have ctx:=CO.tx;refine⟨I2.com CO hb ae,R3,D3,⟨ae,by rw[CO.nx];omega,ae⟩,CO.m,⟨x,by rw[CO.l];exact hx,hs,by rw[CO.read I2 hm ae];exact Wy T hx hs⟩,λks f hk hf=>?_⟩;refine YO N T I2 hx hs hk (λk=>?_);rw[hf k,CO.l];constructor
 ·rintro⟨y,hy,p,hp,e⟩;exact⟨y,hy,p,(CO.inT I2 hy p).mp hp,e⟩
 ·rintro⟨y,hy,p,hp,e⟩;exact⟨y,hy,p,(CO.inT I2 hy p).mpr hp,e⟩
theorem DA.fl0{h:iM}{C:List cQ}{fl:Bool}(D:DA w h C 0 fl):DA w h C 0 true:=by obtain⟨v,h1,h2,h3,h4,h5,h6,h7⟩:=D;exact⟨v,h1,h2,h3,h4,h5,h6,λ_=>MY ae⟩
theorem JR.walk(A:JR G b){ks:List Int}(S:Seen G ks):κ (ks.filter (R8 (hW G (κ G.l))))=3:=by
 refine A.three ks _ S.nd (λk=>?_);constructor
 ·rintro⟨_,h⟩;exact(Gy A.inv k).mp h
 ·intro h;have h2:=(Gy A.inv k).mpr h;refine⟨?_,h2⟩;unfold R8 at h2;obtain⟨x,hx,e,_⟩:=ia h2;exact(S.all k).mpr ⟨x,hx,e⟩
theorem AI(S:oq G M):yq (G.l.map (iH G.l)) (M.l.map (fE M.l)):=by unfold yq;rw[S.l,nI,nI];refine E2 (λx _=>?_);show fE (ih G.l) (cH x)=hP.live (iH G.l x);unfold fE iH hP.live Kx;simp[xw,pf,YG,ss3,ss7]
theorem Qs(I:bq G):κ (G.l.map (iH G.l))<=32:=by rw[Aac];exact I.ik.len
theorem TA(h:k<κ (l.map (fE l))):(l.map (fE l))[k]=fE l (recAt l k):=by grind [b0]
theorem Ky{a:List aj}(h:ef a=true):p0 a []=a:=by grind [p0]
theorem Kz{a b:List aj}(h:ef a=true)(h2:ef b=true)(h0:b≠[]):p0 a b=a++64::b:=by grind [p0]
theorem OK(h:ef b=true):b≠[]:=by rintro rfl;revert h;decide
theorem Ij{a b:List aj}(ha:ef a=true)(hb:ef b=true):cY (a++64::b)=some (a,b):=by
 have h1:(a++64::b).take (κ a)=a:=aq
 have h2:(a++64::b).drop (κ a+1)=b:=aq
 grind [Qh]
theorem gg.full{next:Nat}(F:gg next l)(hk:k<κ l):dM l (ea l (recAt l k).id)=.ok k/\(κ (ea l (recAt l k).id))<=100:=by
 obtain⟨hm,nm⟩:=az (aL hk) (λx hx=>((bm x).mp (F.rt x hx)).2.2.2.2.1);obtain⟨i,hi,p1,p2⟩:=b6 F.gb hm;have e:i=k:=F.gb.lq hi hk p2;subst e;have short:∀x∈l,κ x.name<=24:=λx hx=>oV (nm x hx);have pl:∀x∈l,∀j,j<κ l->recAt l j=x->ed l (b9 x)=some j:=λx hx j hj ej=>by obtain⟨j',h1,h2,h3⟩:=F.placeOf hx;rw[h2,F.gb.lq h1 hj aa]
 cases hs:(recAt l i).aT with
 | false=>rw[MQ p1 hs,Ky (nm _ hm)];refine⟨?_,aP⟩;have h1:=pl _ hm i hi rfl;rw[show b9 (recAt l i)=⟨0,(recAt l i).name⟩ from uK]at h1;exact Iz (Bi (nm _ hm)) h1 rfl
 | true=>obtain⟨v,hv,ev,v0⟩:=F.ov _ hm hs;obtain⟨j,hj,q1,q2⟩:=b6 F.gb hv;rw[MR p1 hs (by rw[<-ev];exact q1),q2,Kz (nm _ hv) (nm _ hm) (OK (nm _ hm))];grind [b9,recAt,IA,Ij,OK]
theorem Re(I:bq G)(S:oq G M)(hk:k<κ M.l)(hj:(j:Int)<(fE M.l (recAt M.l k)).blocks):∃s,fz G.l (fE M.l (recAt M.l k)).name (j:Int)=.ok k/\vw G.P.C (recAt G.l k) j=some s/\j4 M (fE M.l (recAt M.l k)).name (j:Int)=(s,0):=by
 have aa:k<κ G.l:=by rw[S.l,lN]at hk;exact hk
 have hm:=aL aa;refine Ot ?_;intro e1 e2;rw[e2]at hj;rw[e1];have hb:=((bm _).mp (I.ik.rt _ hm)).2.2.2.1.2;have hf:=EE (I.ik.full aa).1 (i:=(j:Int)) ae;have hr:=S.rd _ hm j ae;refine⟨_,hf,hr,?_⟩;rw[GS (by rw[S.l,pW];exact hf),S.l,a'];rfl
theorem EK(I:bq G)(S:oq G M)(hk:k<κ M.l):(1:Int)<=(fE M.l (recAt M.l k)).blocks/\(fE M.l (recAt M.l k)).blocks<=64/\(κ (fE M.l (recAt M.l k)).name)<=100:=by
 have aa:k<κ G.l:=by rw[S.l,lN]at hk;exact hk
 refine Ot ?_;intro e1 e2;rw[e1,e2];have hb:=((bm _).mp (I.ik.rt _ (aL aa))).2.2.2.1;exact⟨hb.1,hb.2,(I.ik.full aa).2⟩
theorem CP(w:af)(va vb:ah)(la lb:List hP)(ha:Em w va la)(hb:Em w vb lb)(hl:κ la<=1000)(he:yq la lb):Aaf Aag 10 #[va,vb] w λe w'=>e=.returned (.bool true)/\Up w w':=by
 obtain⟨a,ca,rfl⟩:=aG.slice ha;have aR:κ lb=κ la:=by rw[he,Aac]
 obtain⟨b,cb,rfl⟩:=aG.slice hb;rw[aR]at hb ⊢;obtain⟨n,hn⟩:=bE (κ la);rw[<-hn]at ha hb hl ⊢;obtain⟨HA,HB,HE,HN,HL⟩:=eQ ha hb he hn aR;have hne:((n:Int) != (n:Int))=false:=aq
 clear hn aR;go_in;go_wp2;go_loopw [14] (λi wr=>∃k:Nat,k<=n/\i=i6 k/\Up w wr) (λi _=>n-(Aaq i).toNat)
 case atStart=>exact⟨0,bG _,rfl,Up.refl _⟩
 case round=>
  obtain⟨k,hk,rfl,ar⟩:=hrel;have UR:=an ar;by_cases hlt:k<n
  ·have b3:((k:Int)<(n:Int))=True:=by simp;omega
   obtain⟨KA,KB⟩:=aw (show k<κ la from by rw[<-HN.out];exact hlt) (show k<κ lb from by rw[HL.out,<-HN.out];exact hlt);obtain⟨ba,oa,ea,_,ra⟩:=EJ (aG.up HA UR) KA.out;obtain⟨bb,ob,eb,_,rb⟩:=EJ (aG.up HB UR) KB.out;subst ea;subst eb;have EQ:=an (show lb[k]'KB.out=(la[k]'KA.out).live from by simp only[show lb=la.map hP.live from HE.out,Adl]);obtain⟨x,hx⟩:=bE (la[k]'KA.out);rw[EQ.out]at rb;rw[<-hx]at ra rb;obtain⟨RA,RB,NB⟩:=aW ra rb (aI.new wr 45 (hB x));have cz:(wr.alloc (.cells (hB x) 45)).cell? (ad wr.heap.size 2)=some (i6 x.dead):=NB.cell 2;have fz:=NB.free 2;clear hx EQ;go_wp2_with(refine arm ?_);rw[show(hB x).setIfInBounds 2 (i6 0)=hB x.live from rfl];obtain⟨b2,u2⟩:=az (aI.new wr 45 (hB x.live)) (ai wr (.cells (hB x.live) 45));have r2:=u2.range RB;obtain⟨w2,hw2⟩:=bE (wr.alloc (.cells (hB x.live) 45));rw[<-hw2]at b2 u2 r2 ⊢;obtain⟨q,hq⟩:=bE (wr.heap.size);rw[<-hq]at b2 ⊢;obtain⟨y,hy⟩:=bE (x.live);rw[<-hy]at b2 r2;clear hw2 hq cz fz hy;have NE:=an (λW:af=>Tz y y W);have aa:decide (y=y)=true:=aq
   rw[aa]at NE;have II:=an (AF y);refine e8 (S:=λW=>aI W q 45 (hB y)/\W.rangeAt bb (ob+k*4) (hB y).toList) al ?_;change Acp _ _ _ _ _ 6 #[false,false,false,false,false,false] _ (w2.drew);have ud:=Up.drew (Up.refl w2);have F0:(λW=>aI W q 45 (hB y)/\W.rangeAt bb (ob+k*4) (hB y).toList) w2.drew:=⟨b2.up ud,ud.range r2⟩;generalize w2.drew=w3 at *;refine tb 0 rfl (yp (λW h=>h.1.range) II underlying45) ?_;refine ta 1 ?_;refine ni ?_;refine tb 4 rfl (yp (λW h=>h.2) II underlying45) ?_;refine tb 5 rfl (ya (h:=XE (.tmp 22) (.tmp 26) rfl y rfl rfl)) ?_;refine ng ?_;clear NE;go_wp2;have e1:(k:Int)+1=((k+1:Nat):Int):=ae
   have KN:=an hlt;go_roundw
   case rel=>exact⟨k+1,hlt,rfl,((UR.trans u2).trans ud)⟩
   case measure=>simp only[Aaq];have:=KN.out;omega
  ·have b3:((k:Int)<(n:Int))=False:=by simp;omega
   go_wp2;go_ret;exact⟨rfl,UR⟩
section
open Go.Maps
theorem bg.OI{mb kb n n':Nat}(h:bg w mb kb n M)(hn:n<=n'):bg w mb kb n' M:=by obtain⟨vb,a,b,c⟩:=h;exact⟨vb,a,b,c.mono hn⟩
theorem SR(s:List aj)(n:Int):prog.built 33 [(0,i6 3),(1,.string (strOf s)),(3,i6 n)]=some (hX ⟨3,s,[],n,[]⟩ (nl) (nl)):=al
theorem Pj(w:af)(p gb:Nat)(H:aS)(G:ch)(A:bU w p gb H G)(I:bq G)(B:py G)(mb kb n:Nat)(M:cO)(AM:bg w mb kb n M)(hn:n<800000)(SM:oq G M)(m1:M.st<=100000000)(m2:M.made<=100000000)(aV:∀k,(PF H k\/k=p)->k≠mb/\k≠kb):Aaf Aag 13 #[pz p,pz mb] w λe w'=>e=.returned (.bool true)/\bU w' p gb H G/\bg w' mb kb (n+2100) M/\Touch (λk=>PF H k\/k=mb\/k=kb) w w':=by
 obtain⟨IM,N⟩:=az (TT I B SM m1 m2) (λo=>IE I B SM o);obtain⟨aH,au,HN,al⟩:=bS N AM hn aV;have ao:=an (show ∀k,(PF H k\/k=mb\/k=kb)->k<w.heap.size from λk hk=>by
  obtain⟨_,a,_,c⟩:=AM;rcases hk with h|rfl|rfl
  ·exact A.ga.pa.lt k h
  ·exact a.lt
  ·exact c.lt)
 have ML:=an (show ∃vb,Aaf Aag 12 #[pz mb] w λe w'=>∃v,e=.returned v/\zG w' w.heap.size v (M.l.map (fE M.l))/\Up w w' from by obtain⟨vb,a,b,c⟩:=AM;exact⟨vb,QC w _ _ _ _ _ _ _ a (bt.cA b) IM.hl⟩)
 obtain⟨vb,aK⟩:=ML.out;clear ML hn m1 m2 aV N;go_in;go_wp2_with fail;refine aK.mono ?_;rintro e w1⟨v,rfl,ov,u1⟩;obtain⟨L,hL⟩:=bE (M.l.map (fE M.l));obtain⟨HL,LL⟩:=aw hL (show κ L=κ M.l from by rw[hL];exact(Aac ..));have aR:κ L<=32:=by rw[LL.out];exact(by rw[SM.l,lN];exact I.ik.len)
 rw[<-hL]at ov;have OV:=an (ak.row ov iw);obtain⟨a,cap,rfl⟩:=(ak.row ov iw).slice;clear hL;go_wp2_with fail;refine(rJ _ p _ H G (A.up u1) I).mono ?_;rintro e w2⟨va,rfl,oa,u2⟩;go_wp2_with fail;refine(CP _ _ _ _ L (ak.row oa iw) (aG.up OV u2) (by have:=(Qs I);omega) (by rw[HL.out];exact(AI SM))).mono ?_;rintro e w3⟨rfl,u3⟩;have U3:=an ((u1.trans u2).trans u3);go_wp2;go_loopw [22] (λi wr=>∃k:Nat,k<=κ L/\i=i6 k/\bU wr p gb H G/\bg wr mb kb (n+65*k) M/\Touch (λk=>PF H k\/k=mb\/k=kb) w3 wr) (λi _=>κ L-(Aaq i).toNat)
 case atStart=>exact⟨0,bG _,rfl,(A.up U3),(au.up U3),Touch.refl _ _⟩
 case round=>
  obtain⟨k,hk,rfl,ar,mr,tr⟩:=hrel;by_cases hlt:k<κ L
  ·have b3:((k:Int)<(κ L:Int))=True:=by simp;omega
   have KM:=an (show k<κ M.l from by rw[<-LL.out];exact hlt);obtain⟨b,off,ea,_,ra⟩:=EJ (aG.nP (aG.up (aG.up OV u2) u3) tr (λc hc h=>by have:=ao c h;have:=(ov.aJ c hc).1;omega)) hlt;subst ea;have ex:L[k]=fE M.l (recAt M.l k):=by
    have:∀(L':List hP)(h:L'=M.l.map (fE M.l))(h2:k<κ L'),L'[k]=fE M.l (recAt M.l k):=by rintro _ rfl h2;exact TA h2
    exact this L HL hlt
   rw[ex]at ra;obtain⟨RB,BL⟩:=aw (λ(j:Nat) (hj:(j:Int)<(fE M.l (recAt M.l k)).blocks)=>Re I SM KM hj) (EK I SM KM);obtain⟨x,hx⟩:=bE (fE M.l (recAt M.l k));rw[<-hx]at ra RB BL;obtain⟨UX,BX⟩:=aw (ai wr (.cells (hB x) 45)) (aI.new wr 45 (hB x));clear hx ex;go_wp2_with(refine arm ?_);obtain⟨w4,hw4⟩:=bE (wr.alloc (.cells (hB x) 45));obtain⟨q,hq⟩:=bE (wr.heap.size);have QL:=an (show w.heap.size<=q from by rw[hq];exact bO U3.size tr.size);rw[<-hw4,<-hq]at BX ⊢;rw[<-hw4]at UX;have aF:x.blocks<=64:=BL.2.1;clear hw4 hq;obtain⟨w0,ay⟩:=bE (wr);subst ay;go_loopw [8] (λi wr=>∃j:Nat,(j:Int)<=x.blocks/\i=i6 j/\bU wr p gb H G/\bg wr mb kb (n+65*k+j) M/\Touch (λk=>PF H k\/k=mb\/k=kb) w3 wr/\aI wr q 45 (hB x)) (λi _=>x.blocks.toNat-(Aaq i).toNat)
   case atStart=>exact⟨0,by have:=BL.1;omega,rfl,(ar.up UX),(mr.up UX),(tr.iD UX),BX⟩
   case round=>
    obtain⟨j,hj,rfl,aj,mj,tj,bj⟩:=hrel;have c0:wr.cell? (ad q 0)=some (.string (strOf x.name)):=bj.cell 0;have c1:wr.cell? (ad q 1)=some (i6 x.blocks):=bj.cell 1;by_cases bd:(j:Int)<x.blocks
    ·have b4:=dU bd;obtain⟨s,f1,f2,f3⟩:=RB j bd;obtain⟨F3,F1,F2,IS,SS⟩:=eQ f3 f1 f2 (show(prog.info? 60).map (·.size)=some (aD s.val).size from by rw[dI,bT,s.2]) (show(aD aM).size=(aD s.val).size from by rw[bT,bT,s.2];rfl);clear f1 f2 f3;go_wp2_with fail;refine(wP _ p _ H G aj I _ (by have:=BL.2.2;omega) _).mono ?_;rintro e w5⟨hr,a5,t5⟩;have aU:e=rt #[.agg (aD s.val),i6 0]:=by
      rcases hr with⟨m,h1,h2⟩|⟨k',s',h1,h2,h3⟩
      ·rw[F1.out]at h1;cases h1
      ·rw[F1.out]at h1;cases h1;rw[show((j:Nat):Int).toNat=j from Abr j,F2.out]at h2;cases h2;exact h3
     subst aU;obtain⟨U6,S6⟩:=aw (ai w5 (.cells (aD s.val) 60)) (aI.new w5 60 (aD s.val));obtain⟨w6,ab⟩:=bE (w5.alloc (.cells (aD s.val) 60));obtain⟨q6,aa⟩:=bE (w5.heap.size);obtain⟨aE,aB⟩:=aw ab aa;rw[<-ab,<-aa]at S6;rw[<-ab]at U6;obtain⟨M6,B6⟩:=aw ((mj.aac aj (t5.mono (λ_ h=>.inl h)) (λh=>(al _ h).2 rfl)).up U6) ((bj.ax t5 (λh=>by have:=ao q (.inl h);have:=QL.out;omega)).up U6);have ag:=an (Bg w6 mb kb (n+65*k+j) M M6 (by have:=HN.out;omega) IM ⟨3,x.name,[],(j:Int),[]⟩ ⟨by show(3:Int)≠2;omega,by show(3:Int)≠7;omega⟩ (nl) (nl) ⟨by have:=BL.2.2;show κ x.name<=_;omega,qp,aC.nil _ _⟩ (λhne=>absurd rfl hne) (aH _));replace c0:w6.cell? (ad q 0)=some (.string (strOf x.name)):=B6.cell 0;have DV:=an (show jY M ⟨3,x.name,[],(j:Int),[]⟩=(s,(0,M))from by show((j4 M x.name (j:Int)).1,((j4 M x.name (j:Int)).2,M))=_;rw[F3.out])
     rw[DV.out]at ag;clear hr ab aa c1;go_wp2_with(first
      | refine bH 60 hM ?_
      | ((with_reducible refine cB _ _ _ ?_);refine fK _ rfl _ (.tmp 9) (.tmp 38) rfl _ _ (aD aM) rfl rfl rfl IS SS (dr _) ?_)
      | ((with_reducible refine rY 9 _ ?_);refine ix ?_))
     rw[<-aB.out,<-aE.out];refine an ?_;go_wp2_with(first
      | ((with_reducible refine eR _ _ ?_);refine Eh rfl _ 0 1 3 (.const (i6 3)) (.tmp 43) (.tmp 44) rfl _ _ _ _ (SR _ _) rfl rfl rfl ?_))
     refine ag.mono ?_;rintro e w7⟨rfl,m7,t7⟩;have U8:=an (ai w7 (.cells (aD s.val) 60));have EQ:∀W:af,(Ac3 10000 60 (.agg (aD s.val)) (.agg (aD s.val))).run Aag W=.ok true W:=λW=>by rw[LZ s.val s.val s.2 s.2 W,fm rfl]
     clear c0;go_wp2_with(first
      | refine bH 60 hM ?_
      | ((with_reducible refine cB _ _ _ ?_);refine fK _ rfl _ (.tmp 11) (.tmp 47) rfl _ _ (aD aM) rfl rfl rfl IS SS (dr _) ?_)
      | refine db 60 9 ((S6.ax t7 (λh=>bg.IB M6 S6 av h)).up U8) (hi:=IS) ?_
      | refine db 60 11 (aI.new _ _ _) (hi:=IS) ?_)
     go_roundw
     case rel=>exact⟨j+1,ae,aq,((a5.up U6).model M6 t7).up U8,m7.up U8,(((tj.trans t5 (λ_ h _=>.inl h)).iD U6).trans t7 (λ_ h _=>.inr h)).iD U8,(B6.ax t7 (λh=>by have:=ao q (.inr h);have:=QL.out;omega)).up U8⟩
     case measure=>simp only[Aaq];omega
    ·have b4:=cG bd;go_wp2;go_roundw
     case rel=>exact⟨k+1,ae,aq,aj,mj.OI ae,tj⟩
     case measure=>simp only[Aaq];omega
  ·obtain rfl:k=κ L:=by omega
   have b3:((κ L:Int)<(κ L:Int))=False:=aq
   go_wp2;go_ret;exact⟨rfl,ar,mr.OI ae,(Touch.bV (F:=λk=>PF H k\/k=mb\/k=kb) U3).trans tr (λ_ h _=>h)⟩
end
def aaK(N:Int)(w:af)(e:Ab3)(w':af):Prop:=((N<64\/400<N)/\e=.returned (.tuple #[.pointer none,.pointer none])/\Up w w')\/(64<=N/\N<=400/\∃p gb H G b,e=.returned (.tuple #[.pointer (some ⟨p,0,none⟩),.pointer (some ⟨H.h.d,0,none⟩)])/\bU w' p gb H G/\Up w w'/\w.heap.size<=p/\(∀k,PF H k->w.heap.size<=k)/\gX N.toNat G b)
theorem It(w:af)(N:Int):Aaf Aag 7 #[i6 N] w (aaK N w):=by
 by_cases h1:N<64
 ·have b1:=dU h1;go_in;go_wp2;go_ret2;exact .inl ⟨.inl h1,rfl,Up.refl w⟩
 by_cases h2:400<N
 ·obtain⟨b1,b2⟩:=az (cG h1) (dU h2);go_in;go_wp2;go_ret2;exact .inl ⟨.inr h2,rfl,Up.refl w⟩
 obtain⟨n,rfl⟩:∃n:Nat,N=(n:Int):=⟨N.toNat,ae⟩;obtain⟨b1,b2⟩:=az (cG h1) (cG h2);have hn:64<=n/\n<=400:=ae
 obtain⟨HN,DN⟩:=aw hn (Xn w n ae);clear h1 h2 hn;go_in;go_wp2_with fail;refine DN.mono ?_;rintro e w1⟨h,rfl,da,u1,fo⟩;obtain⟨b,K,hb,_⟩:=MI (G:=tc (Aad n e9) 0 true) (IC aP) (xD n);obtain⟨HB,FO⟩:=aw hb fo;clear fo hb b1 b2;go_wp2_with fail;refine(Q3 _ h _ 0 _ da b K).mono ?_;rintro e w2⟨p,gb,H,G2,vp,rfl,hp,hA,hH,aV,hc,T,hv⟩;obtain⟨HH,al,HV,HP⟩:=bS hH aV hv hp;clear hH aV hv hp;go_wp2;go_ret2;have hd:H.h.d=h.d:=by rw[HH.out]
 rw[<-hd];have us:=u1.size;refine .inr ⟨cr,cr,p,gb,H,G2,b,rfl,hA,Touch.up T u1 (λk hk=>FO k hk),bO us HP,?_,Lh cq cq cq HB⟩;rintro k(rfl|rfl|hk)
 ·simp only[Hid]at *;omega
 ·simp only[Hid]at *;omega
 ·rw[HH.out]at hk;rcases ud hk with hk|hk
  ·exact FO k hk
  ·rcases HV.out k hk with h3|h3
   ·exact FO k (.inr (.inr (.inr h3)))
   ·omega
theorem R':∀W:af,(Ab9 65).run Aag W=.ok (.agg (lH (nl) (nl) false 0 0)) W:=wI
theorem Pl(w:af):Aaf Aag 6 #[] w λe w'=>e=.returned (.bool true)/\Up w w':=by
 go_in;go_wp2_with fail;refine(It w _).mono ?_;rintro e w1 h;rcases h with⟨h,_⟩|⟨_,_,p,gb,H,G,b,rfl,A1,u1,up,uf,N⟩
 ·omega
 have N:=N;obtain⟨UP,UF,CR⟩:=aW up uf (show Aaf Aag 17 #[pz p,.string ⟨#[118]⟩,i6 4] w1 _ from xI w1 p gb H G A1 N.inv ⟨by rw[N.nx];omega,by rw[N.st];omega,by rw[N.m];omega,by rw[N.tx];omega⟩ zz av 4);clear up uf;go_wp2_with fail;refine CR.mono ?_;rintro e w2⟨r,G1,bl,ab,H1,rfl,hR,bj,hA,T1,bb⟩;obtain⟨ag,hG⟩:=aax N hR;subst ag hG;obtain⟨A2,U2,aS⟩:=aW ((hA.resolve_right (λh=>h.1 rfl)).2) (show Up w w2 from Touch.up T1 u1 (λk hk=>hk.elim (λh=>UF k (.inr (.inr h))) (λh=>by rw[h];exact UP))) (show ∀k,PF H1 k->w.heap.size<=k from λk hk=>(bb.2 k hk).elim (UF k) (bO u1.size));have WR:=an (show Aaf Aag 18 #[pz p,.string ⟨#[118]⟩,i6 1,cC w2.heap.size 1 1] (w2.alloc (.cells #[.int .u8 97] 5 (1,2))) _ from
  xN (w2.alloc (.cells #[.int .u8 97] 5 (1,2))) p ab H1 (jU G) (A2.up (ai w2 _)) (Zq N) (abE N) zz av 1 (some ⟨w2.heap.size,0,none⟩) 1 [97] (aC.lit w2 #[.int .u8 97] 5 (1,2) [97] 1 rfl dy rfl)
   (λk hk=>by
    simp[Aan]at hk
    subst hk
    exact⟨λhf=>by have:=A2.ga.pa.lt _ (.inr (.inr hf));omega,by rw[Aa4];omega⟩))
 have kc:=Lib.run_convert_bytes_const (P:=Aag) w2 30 5 #[.int .u8 97] 1 1 Aau underlying5;clear hA UF;go_wp2_with fail;refine WR.mono ?_;rintro e w3⟨r,G2,ao,bg,H2,rfl,hR,aH,hA,T2,bc⟩;obtain⟨ag,TT,ft⟩:=YQ N hR;subst ag;have UA:=an (show Up w (w2.alloc (.cells #[.int .u8 97] 5 (1,2)))from U2.trans (ai _ _));obtain⟨U3,aT,FT⟩:=aW (show Up w w3 from Touch.up T2 UA (λk hk=>hk.elim (λh=>aS k (.inr (.inr h))) (λh=>by rw[h];exact UP))) (show ∀k,PF H2 k->w.heap.size<=k from λk hk=>(bc.2 k hk).elim (aS k) (bO UA.size)) ft;clear kc aS;go_wp2_with fail;refine(DS _ p _ _ _ ((hA.resolve_right (λh=>h.1 rfl)).2) (TT.inv ft) (Ww N TT)).mono ?_;rintro e w4⟨b3,G3,bo,H3,bs,rfl,hb,hK,hC,a1,A4,T3,be⟩;obtain⟨AL,U4,aE,aL⟩:=bS (Sz N TT FT hb hK hC) (show Up w w4 from Touch.up T3 U3 (λk hk=>hk.elim (λh=>aT k (.inr (.inr h))) (λh=>by rw[h];exact UP))) (show ∀k,PF H3 k->w.heap.size<=k from λk hk=>(be.2 k hk).elim (aT k) (bO U3.size)) (show H3.h.d=H.h.d from by rw[a1];exact(by rw[aH];exact(by rw[bj])));have CS:=an (PU _ _ _ 0 (DA.fl0 (by have:=A4.ga.pa.dev;rw[AL.out.m]at this;exact this)));rw[aL.out]at CS;clear hb a1 aT FT;go_wp2_with fail;refine CS.mono ?_;rintro e w5⟨rfl,bm,d5,t5,o5⟩;obtain⟨h5,au⟩:∃y:iM,y={H3.h with vp:=bm}:=⟨_,rfl⟩;have aP:=an (show h5.d=H.h.d from by rw[au];exact aL);rw[<-au]at d5;have U5:=an (show Up w w5 from Touch.up t5 U4 (λk hk=>aE k (.inr (.inr hk))));have aF:=an (show ∀k,cK h5 k->w.heap.size<=k from λk hk=>by
  rw[au]at hk;rcases ud hk with h|h
  ·exact aE k (.inr (.inr h))
  ·rcases o5 k h with h2|h2
   ·exact aE k (.inr (.inr (.inr (.inr (.inr h2)))))
   ·exact bO U4.size h2)
 have OP:=an (Q5 _ _ _ 0 _ d5 AL.inv AL.ring _ AL.dsk AL.bd);rw[aP.out]at OP;clear o5 au aE aL;go_wp2_with fail;refine OP.mono ?_;rintro e w6⟨p2,bh,H6,rfl,a6,A6,T6,l1,l2,l3,l4⟩;obtain⟨U6,II⟩:=aw (show Up w w6 from Touch.up T6 U5 (λk hk=>aF k hk)) (XD AL.inv AL.dsk 0 true);have aY:=an (show ∀k,PF H6 k->w.heap.size<=k from λk hk=>by
  have:=U5.size;rcases hk with rfl|rfl|hk
  ·omega
  ·omega
  ·rw[a6]at hk;exact aF k hk)
 clear l1 l2 l3 l4;go_wp2_with fail;refine(rJ _ _ _ _ _ A6 II).mono ?_;rintro e w7⟨v,rfl,oi,u7⟩;have L1:κ ((Az G3 0 true).l.map (iH (Az G3 0 true).l))=1:=by obtain⟨x,hx,_⟩:=AL.one;show(G3.l.map (iH G3.l)).length=1;rw[hx];rfl
 obtain⟨ia,ic,rfl⟩:=(ak.row oi iw).slice;rw[L1];have RD:=an (show Aaf Aag 21 #[pz p2,.string ⟨#[118]⟩,i6 1] w7 _ from wP w7 p2 bh H6 (Az G3 0 true) (A6.up u7) II zz av 1);clear L1;go_wp2_with fail;refine RD.mono ?_;rintro e w8⟨he,A8,t8⟩;have he:e=.returned (.tuple #[.agg (aD (jL [97]).val),i6 0]):=by
  obtain⟨x,hx,hs,hr⟩:=AL.one;have hf:fz (Az G3 0 true).l zz 1=.ok 0:=by show fz G3.l zz 1=.ok 0;rw[hx];exact aav hs
  have ay:vw (Az G3 0 true).P.C (recAt (Az G3 0 true).l 0) (1:Int).toNat=some (jL [97]):=by show vw G3.P.C (recAt G3.l 0) 1=_;rw[hx];exact hr
  rcases he with⟨n,h,_⟩|⟨k,s,h,h2,h3⟩
  ·rw[hf]at h;cases h
  ·rw[hf]at h;cases h;rw[ay]at h2;cases h2;exact h3
 subst he;obtain⟨cc,aR⟩:=bE (aD (jL [97]).val);have CZ:=an (show cc.size=128/\cc[0]?=some (.int .u8 97)/\cc.all (·.oneCell')=true from by rw[aR];exact⟨by rw[bT];exact(jL [97]).property,al,dr _⟩)
 rw[<-aR];obtain⟨D8,U8⟩:=aw (show DA w8 h5 G3.P.C 0 true from by have:=A8.ga.pa.dev;rw[a6]at this;exact this) (show Up w w8 from Touch.up t8 (U6.trans u7) (λk hk=>aY k hk));obtain⟨u9,b9⟩:=az (ai w8 (.cells cc 60)) (aI.new w8 60 cc);obtain⟨w9,ar⟩:=bE (w8.alloc (.cells cc 60));obtain⟨q5,aj⟩:=bE (w8.heap.size);obtain⟨ba,a7⟩:=aw ar aj;rw[<-ar]at u9 b9;rw[<-aj]at b9;obtain⟨F8,WK⟩:=aw (show ∀k,cK h5 k->k<q5 from by rw[aj];exact D8.lt) (C3 _ _ _ 0 _ (D8.up u9) AL.inv AL.ring _ AL.dsk);rw[aP.out]at WK;clear aR ar aj aY;go_wp2_with(first
  | refine arm ?_
  | ((with_reducible refine cB _ _ _ ?_);refine fK _ rfl _ (.tmp 5) (.tmp 54) rfl _ _ (aD aM) rfl rfl rfl (by rw[CZ.out.1];kernel_rfl) (by rw[CZ.out.1];rfl) CZ.2.2 ?_))
 rw[<-a7.out,<-ba.out];refine WK.mono ?_;rintro e aV⟨vr,vt,ks,rfl,se,r1,r2,d1,t1⟩;obtain⟨ra,rc,rfl⟩:=aG.slice r1;obtain⟨ta,tc,rfl⟩:=aG.slice r2;rw[show((κ (ks.filter (R8 (hW G3 (κ G3.l)))):Nat):Int)=3 from by rw[AL.out.walk se];rfl];have LN:=an (show(aB (gy G3.P.s) 4096).length<=100000 from by have:=gP (gy G3.P.s) 4096;omega);obtain⟨sl,aJ⟩:=bE (aB (gy G3.P.s) 4096);rw[<-aJ]at r1 r2 LN ⊢;obtain⟨rl,aK⟩:=bE (κ sl);obtain⟨n,hn⟩:∃y:Int,y=(κ G3.l:Int):=⟨_,rfl⟩;rw[<-aK]at r1 r2 ⊢;rw[<-hn];obtain⟨bt,U10⟩:=aw (b9.ax t1 (λhf=>absurd (F8 _ hf) ae)) (show Up w aV from Touch.up t1 (U8.trans u9) (λk hk=>aF k hk));obtain⟨aq,aU⟩:=az (ai aV (.cells (lH (.slice ra rl rc) (.slice ta rl tc) false n 3) 65)) (aI.new aV 65 (lH (.slice ra rl rc) (.slice ta rl tc) false n 3));obtain⟨w11,aa⟩:=bE (aV.alloc (.cells (lH (.slice ra rl rc) (.slice ta rl tc) false n 3) 65));obtain⟨q7,aX⟩:=bE (aV.heap.size);obtain⟨aQ,a8⟩:=aw aa aX;rw[<-aa]at aq aU;rw[<-aX]at aU;obtain⟨B5,CL⟩:=aw (bt.up aq) (zH w11 (.slice ra rl rc) (.slice ta rl tc) sl (aG.up r1 aq) (aG.up r2 aq) LN n 3);have bf:w11.cell? (ad q5 0)=some (.int .u8 97):=(B5.cell 0).trans CZ.2.1;clear aa aX aJ aK hn;go_wp2_with(first
  | refine arm ?_
  | ((with_reducible refine rY 5 _ ?_);refine ix ?_)
  | ((with_reducible refine rY _ _ ?_);refine ix ?_))
 rw[<-a8.out,<-aQ.out];refine an ?_;go_wp2_with(refine arm ?_);refine CL.mono ?_;rintro e bU⟨rfl,aO⟩;have bn:bU.cell? (ad q7 4)=some (i6 3):=(aU.up aO).cell 4;clear bf;go_wp2;go_ret;exact⟨rfl,((U10.trans aq).trans aO)⟩
structure Hr where
 d:iR
 da:Option Addr
 dn:Nat
 dc:Nat
 ka:Option Addr
 kn:Nat
 kc:Nat
def Lt(y:Hr):Array ah:=hX y.d (.slice y.da y.dn y.dc) (.slice y.ka y.kn y.kc)
def lF(y:Hr):List ah:=(Lt y).toList
theorem O0(y:Hr):(Lt y).all (·.oneCell')=true:=by simp[Lt,hX,Ac9]
theorem Yc:gi lF 6:=⟨ae,λ_=>rfl,λy v hv=>by have:=O0 y;rw[Fb]at this;exact this v (by grind [lF])⟩
def Hs(w:af)(y:Hr):Prop:=Sp w (.slice y.da y.dn y.dc) y.d/\(κ y.d.data)<=140737488351232
def Hs.up{w w':af}{y:Hr}(h:Hs w y)(u:Up w w'):Hs w' y:=⟨⟨h.1.nm,h.1.to,aC.up h.1.bs u⟩,h.2⟩
section
open Go.Maps
structure WX where
 a:Option Addr
 c:Nat
 l:List aj
def YL(y:WX):ah:=.slice y.a (κ y.l) y.c
def wZ(y:WX):List ah:=[YL y]
theorem tw:gi wZ 1:=⟨ae,λ_=>rfl,λy v hv=>by simp[wZ,YL]at hv;subst hv;rfl⟩
def w8(nm:List aj)(n:Int)(y:WX):Hr:=⟨⟨1,nm,[],n,y.l⟩,y.a,κ y.l,y.c,none,0,0⟩
def n'(d:iR):Hr:=⟨d,none,0,0,none,0,0⟩
theorem SN(k n:Int)(s:List aj):prog.built 33 [(0,i6 k),(1,.string (strOf s)),(3,i6 n)]=some (Lt (n' ⟨k,s,[],n,[]⟩)):=al
theorem HE(n:Int)(s:List aj)(y:WX):prog.built 33 [(0,i6 1),(1,.string (strOf s)),(3,i6 n),(4,YL y)]=some (Lt (w8 s n y)):=al
theorem tN(k:Int)(s:List aj):prog.built 33 [(0,i6 k),(1,.string (strOf s))]=some (Lt (n' ⟨k,s,[],0,[]⟩)):=al
theorem SO(k:Int)(s t:List aj):prog.built 33 [(0,i6 k),(1,.string (strOf s)),(2,.string (strOf t))]=some (Lt (n' ⟨k,s,t,0,[]⟩)):=al
theorem SP(k:Int):prog.built 33 [(0,i6 k)]=some (Lt (n' ⟨k,[],[],0,[]⟩)):=al
theorem Ia:(prog.info? 33).map (λi=>(i.zero,i.size,i.bytes))=some (some (.agg (hX ⟨0,[],[],0,[]⟩ (nl) (nl))),6,96):=al
section
variable {P:bu} {ops:Array Abi} {Q:Exit->Act->af->Prop} {F0:Nat->Prop} {x0:af} {L L0:List As} {a:Act} {w x:af} {rest:List Abi} {o:Abi} {J:List Nat} {k m n g:Nat}
theorem Fr.lit{α:Type}{f:α->List ah}{k:Nat}{e:Aab}{C:Array ah}(ys:List α)(hw:gi f k)(s:Fr no x0 (bk g e C::L) w)(hC:C.toList=ys.flatMap f)(hm:κ ys<=1000000):Fr no x0 (qy f k e x0.heap.size (cC g (κ ys) (κ ys)) ys::L) w:=by
 have hg:x0.heap.size<=g:=(s.f _ cS g rfl).2.resolve_left id;have hb:aI w g e C:=s.p _ cS;have hl:κ (ys.flatMap f)=κ ys*k:=hw.flat ys;have hs:C.size=κ ys*k:=by rw[<-hl,<-hC];simp
 refine⟨s.t,λA hA=>?_,λA hA n hn=>?_,fk.2 ⟨λA hA n hn ha=>?_,(fk.1 s.d).2⟩⟩
 ·rcases Aak.1 hA with rfl|hA
  ·refine⟨hl,.inr ⟨g,κ ys,C,rfl,hg,hb,aE _,dy,hs,?_⟩⟩;rw[hC,<-hl,fj]
  ·exact s.p A (bn _ hA)
 ·rcases Aak.1 hA with rfl|hA
  ·have hn:some g=some n:=hn;cases hn;exact s.f _ cS g rfl
  ·exact s.f A (bn _ hA) n hn
 ·have hn:some g=some n:=hn;cases hn;exact(fk.1 s.d).1 A hA g rfl ha
theorem aa1{α:Type}{f:α->List ah}{j:Nat}{e t:TypeId}{xs:List α}{C:Array ah}{zv v:ah}{bytes:Nat}(hw:gi f j)(ys:List α)(N:Nat)(hN:κ xs+κ ys=N){L':ah->List As}(s:Fr F0 x0 L w)(h:∀a' c' w,Fr F0 x0 (L' (.slice a' N c')) w->wpList P ops Q rest (a.put o.dst (.slice a' N c')) w)(hgd:o.guard=none:=by rfl)(ho:o.op=.call {callee:=.builtin .append,args:=#[.tmp m,.tmp n],argTypes:=#[t,t]}:=by with_reducible rfl)(hs:a.eval (.tmp m)=v:=by exact zvv)(hx:a.eval (.tmp n)=cC g (κ ys) (κ ys):=by rfl)(hm:bk g e C∈L:=by exact gB)(hC:C.toList=ys.flatMap f:=by rfl)(h0:0<κ ys:=by decide)(hU:∀v',mK L (qy f j e x0.heap.size v xs) (qy f j e x0.heap.size v' (xs++ys)) (L' v'):=by intro _;exact tK)(ht:P.underlying t=some (.slice e):=by exact gh)(hi:(P.info? e).map (λi=>(i.zero,i.size,i.bytes))=some (some zv,j,bytes):=by assumption)(hz:zv.cells.size=j:=by rfl)(hb:N*bytes<=140737488355328:=by omega)(hl:N<=1000000:=by omega):wpList P ops Q (o::rest) a w:=ej hw hgd (.tmp m) (.tmp n) t ho x0.heap.size e zv bytes ht hi hz v xs hs (s.p _ (hU v).mem) _ ys hx (.inr ⟨g,0,κ ys,rfl,h0,aE _,dy,λi u hj=>by
  rw[(s.e6 hm).cell,Abn,<-l7,hC];exact hj⟩) (by rw[hN];exact hb) ae s.t.size λv' w' h1 h2 _ h4=>by
  obtain⟨a',c',hv⟩:=(ak.row h1 hw).slice;rw[Aae,hN]at hv;subst hv;refine h a' c' w' (s.yb (hU _) (Touch.be h2 λk hk=>show v.ownBlock=some k from hk) h1 λk hk=>⟨(h1.aJ k hk).2,?_⟩);rcases h4 with h4|⟨g',h4,h5⟩
  ·exact .inl (h4.symm.trans hk)
  ·exact Nx
theorem kal(C:Array ah)(t:TypeId)(v:Nat->ah){a':Nat->Act}(h:∀g w,Up x w->Fr F0 x0 (bk g t C::L) w->RK P ops Q F0 x0 L0 (bk g t C::L) J (k+1) (a' g) w)(hv:∀w,(execOp a.eval o).run P w=.ok (.value (v w.heap.size)) (w.alloc (.cells C t)):=by intro _;kernel_rfl)(hJ:J.contains k=false:=by rfl)(hi:ops[k]?=some o:=by rfl)(ha:∀g,a.put o.dst (v g)=a' g:=by intro _;first|(simp only[Act.put,fL];rfl)|rfl)(hw:Region.wanted o (yielded ops a.tmps)=true:=by rfl)(hc:(JP P ops (ml ops.size J k) k && Region.noSelect ops)=true:=by kernel_rfl)(hQ:∀c a w b,a.defers=b.defers->Q (.panic c) a w->Q (.panic c) b w:=by intro _ ⟨_,_⟩ _ ⟨_,_⟩ e h;cases e;exact h):RK P ops Q F0 x0 L0 L J k a x:=ko (λw u s K hK=>Mt (hv w) (hK _ _ (bk w.heap.size t C::L) (.res s (.one (ai _ _) (aI.new ..) (λn h=>by
  have h:n=w.heap.size:=h;have:=(aI.new w t C).lt;omega))) (λA _ h=>bn _ h) (by
  have:=h w.heap.size _ (u.trans (ai _ _)) (s.alloc t C);rw[ha];exact this))) hJ hi hw hc hQ
theorem kap{α:Type}{f:α->List ah}{j:Nat}{e t:TypeId}{xs:List α}{C:Array ah}{zv v:ah}{bytes:Nat}(hW:gi f j)(y:α){L':ah->List As}{a':ah->Act}(h:∀b c w,Fr F0 x0 (L' (.slice b (κ xs+1) c)) w->RK P ops Q F0 x0 L0 (L' (.slice b (κ xs+1) c)) J (k+1) (a' (.slice b (κ xs+1) c)) w)(hi:ops[k]?=some o:=by rfl)(ho:o.op=.call {callee:=.builtin .append,args:=#[.tmp m,.tmp n],argTypes:=#[t,t]}:=by rfl)(hs:a.eval (.tmp m)=v:=by exact zvv)(hx:a.eval (.tmp n)=cC g 1 1:=by rfl)(hm:bk g e C∈L:=by exact gB)(hC:C.toList=f y:=by rfl)(hU:∀v',mK L (qy f j e x0.heap.size v xs) (qy f j e x0.heap.size v' (xs++[y])) (L' v'):=by intro _;exact tK)(aL:∀v',L0.Sublist (L' v'):=by intro _;repeat(first|exact List.Sublist.slnil|(with_reducible refine List.Sublist.cons₂ _ ?_)|refine List.Sublist.cons _ ?_))(ht:P.underlying t=some (.slice e):=by exact gh)(hn:(P.info? e).map (λi=>(i.zero,i.size,i.bytes))=some (some zv,j,bytes):=by assumption)(hz:zv.cells.size=j:=by rfl)(hb:(κ xs+1)*bytes<=140737488355328:=by omega)(hl:κ xs+1<=9223372036854775807:=by omega)(hJ:J.contains k=false:=by rfl)(ha:∀v,a.put o.dst v=a' v:=by intro _;first|(simp only[Act.put,fL];rfl)|rfl)(hw:Region.wanted o (yielded ops a.tmps)=true:=by rfl)(hc:(JP P ops (ml ops.size J k) k && Region.noSelect ops)=true:=by kernel_rfl)(hQ:∀c a w b,a.defers=b.defers->Q (.panic c) a w->Q (.panic c) b w:=by intro _ ⟨_,_⟩ _ ⟨_,_⟩ e h;cases e;exact h):RK P ops Q F0 x0 L0 L J k a x:=ko (λw u s K hK=>mH hW (.tmp m) (.tmp n) t ho x0.heap.size e zv bytes ht hn hz v xs hs (s.p _ (hU v).mem) _ [y] hx (.inr ⟨g,0,1,rfl,aq,aq,dy,λi u hj=>by
  have hj:C.toList[i]?=some u:=by rw[hC];simpa using hj
  rw[(s.e6 hm).cell,Abn,<-l7];exact hj⟩) (by simpa using hb) (by simpa using hl) s.t.size λv' w' h1 h2 _ h4=>by
  obtain⟨b',c',hv⟩:=(ak.row h1 hW).slice;rw[Aae]at hv;subst hv;have N:=w9.yb s (hU (.slice b' (κ xs+1) c')) (Touch.be h2 λk hk=>show v.ownBlock=some k from hk) h1 λk hk=>⟨(h1.aJ k hk).2,by
   rcases h4 with h4|⟨g',h4,h5⟩
   ·exact .inl (h4.symm.trans hk)
   ·right;have:=dC (h4.symm.trans hk);omega⟩
  refine hK _ _ _ N (λA hA _=>(aL _).subset hA) ?_;rw[ha];exact h b' c' w' N.1) hJ hi hw hc hQ
end
end
structure lW(G G3:ch)(c:Nat):Prop where
 u:G3.u=G.u
 ms:G3.ms=G.ms
 mL:bj G.P.s<=bj G3.P.s+c
 Sb:∀j,G.P.s j≠1->G3.P.C[j]?=G.P.C[j]?
 len:κ G3.P.C=κ G.P.C
theorem lW.refl(G:ch)(c:Nat):lW G G c:=⟨rfl,rfl,ae,λ_ _=>rfl,rfl⟩
theorem lW.dev{G G2:ch}(c:Nat)(h:κ G2.P.C=κ G.P.C/\∀j,G.P.s j≠1->G2.P.C[j]?=G.P.C[j]?):lW G (PY G G2) c:=⟨rfl,rfl,by show bj G.P.s<=bj G.P.s+c;omega,h.2,h.1⟩
theorem lW.aaZ(c:Nat)(L:List au)(nx:Nat)(l:List ab):lW G {G with P:={G.P with s:=bK G.P.s G.P.ba L},next:=nx,l:=l} c:=⟨rfl,rfl,by have:=mQ (s:=G.P.s) (ba:=G.P.ba) L;show bj G.P.s<=bj (bK G.P.s G.P.ba L)+c;omega,λ_ _=>rfl,rfl⟩
def B8(o:iR):Nat:=if o.kind=1\/o.kind=2 then 3 else 0
section
variable {G G3:ch} {o:iR} {s:cQ} {r:Int}
theorem nf{R:Int->ch->Prop}{c:Nat}(h:dT G R s r G3)(h1:∀G2,R r G2->r=0->lW G G2 c)(h2:∀G2,R r G2->r≠0->κ G2.P.C=κ G.P.C/\∀j,G.P.s j≠1->G2.P.C[j]?=G.P.C[j]?):lW G G3 c:=by
 obtain⟨_,G2,hR,⟨hr,rfl⟩|⟨hr,rfl⟩⟩:=h
 ·exact h1 _ hR hr
 ·exact lW.dev c (h2 _ hR hr)
theorem re{X:Except Nat (Nat × List ab)}{f:ch->ch}{b:Bool}{c:Nat}(hf:∀g,(f g).u=g.u/\(f g).ms=g.ms/\(f g).P.s=g.P.s/\(f g).P.C=g.P.C)(h:dT G (fB G X f b) s r G3):lW G G3 c:=by
 refine nf h (λG2 hR hr=>?_) (λG2 hR hr=>?_)
 ·rcases hR with⟨n,_,_,_,rfl⟩|⟨nx,l',_,rfl,_⟩
  ·exact lW.refl _ _
  ·obtain⟨e1,e2,e4,e5⟩:=hf {G with next:=nx,l:=l'};exact⟨e1,e2,by rw[e4];show bj G.P.s<=bj G.P.s+c;omega,λj _=>by rw[e5],by rw[e5]⟩
 ·rcases hR with⟨n,_,_,_,rfl⟩|⟨nx,l',_,rfl,_⟩
  ·exact⟨rfl,λ_ _=>rfl⟩
  ·obtain⟨e1,e2,e4,e5⟩:=hf {G with next:=nx,l:=l'};exact⟨by rw[e5],λj _=>by rw[e5]⟩
theorem Dw{full:List aj}{N:Int}{b:Bool}{x:cQ}(h:dT G (pN G full N b x) s r G3):lW G G3 3:=by
 refine nf h (λG2 hR hr=>?_) (λG2 hR hr=>?_)
 ·rcases hR with⟨n,_,hn,e,rfl⟩|⟨k,_,⟨_,e,rfl⟩|⟨_,e,d⟩|⟨_,_,T,f⟩⟩
  ·exact lW.refl _ _
  ·exact lW.refl _ _
  ·omega
  ·exact⟨T.u,T.us.ms,T.us.mL,T.Sb,T.len⟩
 ·rcases hR with⟨n,_,hn,e,rfl⟩|⟨k,_,⟨_,e,rfl⟩|⟨_,e,d⟩|⟨_,e,_⟩⟩
  ·exact⟨rfl,λ_ _=>rfl⟩
  ·exact⟨rfl,λ_ _=>rfl⟩
  ·exact⟨d.1,d.2.1⟩
  ·exact absurd e hr
theorem AP{X:Except Nat (Nat × List ab × ab)}{c:Nat}(h:dT G (Eo G X) s r G3):lW G G3 c:=by exact N5
theorem Qt{X:Except Nat (Nat × List ab × List au)}{c:Nat}(h:dT G (Sj G X) s r G3):lW G G3 c:=by exact N5
theorem ER{full:List aj}{c:Nat}(h:dT G (e' G full) s r G3):lW G G3 c:=by
 unfold e' at h;cases hs:cY full with
 | none=>
  rw[hs]at h;refine nf h (λG2 hR hr=>?_) (λG2 hR hr=>?_)
  ·obtain⟨_,rfl⟩:=hR;exact lW.refl _ _
  ·obtain⟨_,rfl⟩:=hR;exact⟨rfl,λ_ _=>rfl⟩
 | some p=>
  obtain⟨v,sn⟩:=p;rw[hs]at h;by_cases h0:sn=[]
  ·simp only[h0,if_true]at h;exact AP h
  ·simp only[h0,if_false]at h;exact Qt h
theorem Ac(hk:o.kind≠9)(h:Cv G o s r G3):lW G G3 (B8 o):=by
 unfold Cv at h;by_cases h0:o.kind=0
 ·rw[bp h0]at h;exact re (f:=id) (λg=>⟨rfl,rfl,rfl,rfl⟩) h
 rw[aO h0]at h;by_cases h1:o.kind=1
 ·rw[bp h1]at h;unfold B8;rw[bp (.inl h1)];exact Dw h
 rw[aO h1]at h;by_cases h2:o.kind=2
 ·rw[bp h2]at h;unfold B8;rw[bp (.inr h2)];exact Dw h
 rw[aO h2]at h;by_cases h3:o.kind=3
 ·rw[bp h3]at h;obtain⟨rfl,_⟩:=h;exact lW.refl _ _
 rw[aO h3]at h;by_cases h4:o.kind=4
 ·rw[bp h4]at h;exact re (f:=λg:ch=>{g with P:={g.P with st:=g.P.st+1}}) (λg=>⟨rfl,rfl,rfl,rfl⟩) h
 rw[aO h4]at h;by_cases h5:o.kind=5
 ·rw[bp h5]at h;exact re (f:=id) (λg=>⟨rfl,rfl,rfl,rfl⟩) h
 rw[aO h5]at h;by_cases h6:o.kind=6
 ·rw[bp h6]at h;exact re (f:=id) (λg=>⟨rfl,rfl,rfl,rfl⟩) h
 rw[aO h6]at h;by_cases h7:o.kind=7
 ·rw[bp h7]at h;exact AP h
 rw[aO h7]at h;by_cases h8:o.kind=8
 ·rw[bp h8]at h;exact ER h
 rw[aO h8,aO hk]at h;obtain⟨_,_,rfl⟩:=h;exact lW.refl _ _
theorem HS(I:bq G)(B:py G)(R:Ring G)(hk:o.kind=9)(h:Cv G o s r G3):∃b,κ b=ck G.l/\mO G b G3/\W3 G3 b/\Ring G3:=by unfold Cv at h;rw[hk]at h;simp only[show ¬((9:Int)=0)from ae,show ¬((9:Int)=1)from ae,show ¬((9:Int)=2)from ae,show ¬((9:Int)=3)from ae,show ¬((9:Int)=4)from ae,show ¬((9:Int)=5)from ae,show ¬((9:Int)=6)from ae,show ¬((9:Int)=7)from ae,show ¬((9:Int)=8)from ae,if_false,if_true]at h;obtain⟨_,_,b,hb,K,c⟩:=h;obtain⟨d,r2⟩:=Ex I B R c K;exact⟨b,hb,c,d,r2⟩
theorem Ta(I:bq G)(B:py G)(R:Ring G)(h:Cv G o s r G3):Ring G3:=by
 by_cases hk:o.kind=9
 ·obtain⟨_,_,_,_,h⟩:=HS I B R hk h;exact h
 ·have K:=Ac hk h;exact R.congr I K.u K.Sb
end
inductive ZB (G:ch):List iR->ch->Prop
 | nil:ZB G [] G
 | snoc {l:List iR} {o:iR} {G1 G2:ch} {s:cQ} {r:Int}:ZB G l G1->bq G1->py G1->Cv G1 o s r G2->ZB G (l++[o]) G2
theorem Wl{α:Type}{f:α->Nat}{b:Nat}:∀(l:List α),(∀x∈l,f x<=b)->(l.map f).sum<=κ l*b
 | [],_=>aq
 | x::l,h=>by have h1:=Wl l (λy hy=>h y (by simp[hy]));have h2:=h x aq;simp only[Ab8,Acm,Aaj,Nat.add_mul];omega
theorem Vw:dF 4096=37:=by simp[dF,eD,ly,jl,hf]
theorem Xu{G G2:ch}(I:bq G)(hl:κ G2.P.C=κ G.P.C)(hc:bj G2.P.s=bj G.P.s)(ht:κ G.P.C<=400)(hn:G2.next<=100)(h:∀x∈G2.l,cw x.root=true/\(κ x.dead)<=73/\gq x.dead=true)(hs:∀y∈ih G2.l,cz y=true/\(κ y.name)<=3)(h3:κ G2.l<=3)(aa:94<=bj G.P.s):ev G2=true:=by
 have rt:∀x∈G2.l,cz x=true:=λx hx=>by obtain⟨a,b⟩:=az ((bm _).mp (hs (cH x) (List.mem_map.mpr ⟨x,hx,rfl⟩)).1) (h x hx);exact(bm x).mpr ⟨a.1,a.2.1,a.2.2.1,a.2.2.2.1,a.2.2.2.2.1,b.1,ae,b.2.2,a.2.2.2.2.2.2.2.2⟩
 have s1:=Wl (f:=kC) (b:=1231) G2.l (λx hx=>by have h1:κ x.name<=3:=(hs (cH x) (List.mem_map.mpr ⟨x,hx,rfl⟩)).2;have h2:=(h x hx).2.1;unfold kC;omega)
 have sl:12<=ck G2.l/\ck G2.l<=4096:=by unfold ck;omega
 have aQ:=I.ln;have e:fc G2=e2 (ck G2.l) (κ G2.P.C):=hQ ⟨ae,ae,rt⟩ ae ae;have n1:=s' (a:=ck G2.l) (b:=4096) ae sl.2 ae;have n2:=oX (t:=κ G2.P.C) ae;rw[Vw]at n1;unfold ev;unfold e2 at e;exact fm ⟨ae,ae,ae⟩
def o2(M:cO):Nat × List ab × Nat:=(M.next,M.l,M.st)
def Vj(p:Nat × List ab × Nat):cO:=⟨p.1,p.2.1,λ_=>pF,p.2.2,0⟩
def pj(p:Nat × List ab × Nat)(o:iR):Nat × List ab × Nat:=o2 (jY (Vj p) o).2.2
def okP(p:Nat × List ab × Nat):Bool:=decide (p.1<=100/\(κ p.2.1)<=3) && p.2.1.all (λy=>cz y && decide (κ y.name<=3))
def yt:List iR->Nat × List ab × Nat->Nat->Bool
 | [],p,_=>decide ((p.2.1.map (fE p.2.1)).map (·.name)=[[99]])
 | o::r,p,c=>if o.kind=1 then yt r p (c-3)else
  ((decide (o.kind=0\/o.kind=4\/o.kind=5) && decide (94<=c) && okP (pj p o)) || decide (o.kind=6\/o.kind=8\/o.kind=9)) && yt r (pj p o) (if o.kind=9 then 0 else c)
theorem yu:∀(r:List iR){p:Nat × List ab × Nat}{c c':Nat},c<=c'->yt r p c=true->yt r p c'=true
 | [],_,_,_,_,h=>h
 | o::r,p,c,c',hc,h=>by
  unfold yt at h ⊢;by_cases h1:o.kind=1
  ·rw[bp h1]at h ⊢;exact yu r ae h
  ·rw[aO h1]at h ⊢;simp only[Aa8,Adk,decide_eq_true_eq]at h ⊢;refine⟨h.1.imp (λk=>⟨⟨k.1.1,ae⟩,k.2⟩) id,yu r ?_ h.2⟩;split<;>omega
theorem KA:∀(a:List iR){r:List iR}{p:Nat × List ab × Nat}{c c':Nat},(∀o∈a,o.kind=1)->c'<=c-3*κ a->yt r p c'=true->yt (a++r) p c=true
 | [],r,p,c,c',_,hc,h=>yu r (by simpa using hc) h
 | o::a,r,p,c,c',ha,hc,h=>by show yt (o::(a++r)) p c=true;unfold yt;rw[bp (ha o aq)];exact KA a (λx hx=>ha x (by simp[hx])) (by simp only[Aaj]at hc;omega) h
theorem abi(M:cO)(o:iR)(hk:o.kind=0\/o.kind=4\/o.kind=5\/o.kind=6\/o.kind=8\/o.kind=9):o2 (jY M o).2.2=pj (o2 M) o:=by
 unfold pj;rcases hk with h|h|h|h|h|h<;>simp only[jY,h]
 ·show o2 (h2 M (cD M.next M.l o.name o.n)).2=o2 (h2 (Vj (o2 M)) (cD M.next M.l o.name o.n)).2;cases cD M.next M.l o.name o.n<;>rfl
 ·show o2 (vC M (eG M.next M.l o.name M.st)).2=o2 (vC (Vj (o2 M)) (eG M.next M.l o.name M.st)).2;cases eG M.next M.l o.name M.st<;>rfl
 ·show o2 (h2 M (dq M.next M.l o.name o.to)).2=o2 (h2 (Vj (o2 M)) (dq M.next M.l o.name o.to)).2;cases dq M.next M.l o.name o.to<;>rfl
 ·show o2 (xg M (cp M.next M.l o.name)).2=o2 (xg (Vj (o2 M)) (cp M.next M.l o.name)).2;cases cp M.next M.l o.name<;>rfl
 ·show o2 (ls M o.name).2=o2 (ls (Vj (o2 M)) o.name).2;unfold ls;cases cY o.name with
  | none=>rfl
  | some q=>
   show o2 (v8 M o.name (pS M o.name (decide (q.2=[])))).2=o2 (v8 (Vj (o2 M)) o.name (pS (Vj (o2 M)) o.name (decide (q.2=[])))).2;have e:pS (Vj (o2 M)) o.name (decide (q.2=[]))=pS M o.name (decide (q.2=[])):=by cases decide (q.2=[])<;>rfl
   rw[e];cases pS M o.name (decide (q.2=[]))<;>rfl
 ·rfl
theorem VV(M:cO)(o:iR)(hk:o.kind=1):o2 (jY M o).2.2=o2 M:=by
 simp only[jY,hk];show o2 (jW M o.name o.n o.data).2=_;unfold jW;split
 ·rfl
 ·split<;>rfl
theorem Xy{p:Nat × List ab × Nat}(h:yt (o::r) p c=true):o.kind≠2/\o.kind≠7:=by
 unfold yt at h;by_cases h1:o.kind=1
 ·omega
 ·rw[aO h1]at h;simp only[Aa8,Adk,decide_eq_true_eq]at h;omega
section
variable {G G3:ch} {M M':cO} {o:iR} {s:cQ} {r:Int}
theorem LV{X:Except Nat (Nat × List ab)}{f:ch->ch}(h1:∀n,X=.error n->n≠71)(h2:∀nx l',X=.ok (nx,l')->ev (f {G with next:=nx,l:=l'})=true)(h:dT G (fB G X f true) s 71 G3):False:=by
 obtain⟨_,G2,R,_⟩:=h;rcases R with⟨n,hX,e,_⟩|⟨nx,l',hX,rfl,e⟩
 ·exact h1 n hX ae
 ·rw[bp rfl]at e;unfold ye at e;rw[h2 _ _ hX,bp rfl]at e;omega
theorem ab9(I:bq G)(S:oq G M)(aF:M.st=G.P.st)(ht:κ G.P.C<=400)(aa:94<=bj G.P.s)(hk:o.kind=0\/o.kind=4\/o.kind=5)(hp:okP (pj (o2 M) o)=true)(R:Cv G o s 71 G3):False:=by
 have old:∀x∈G.l,cw x.root=true/\(κ x.dead)<=73/\gq x.dead=true:=λx hx=>by have a:=(bm x).mp (I.ik.rt x hx);exact⟨a.2.2.2.2.2.1,I.lC hx,a.2.2.2.2.2.2.2.1⟩
 have fin:∀{nx:Nat}{l':List ab}{st:Nat}{G2:ch},pj (o2 M) o=(nx,ih l',st)->G2.next=nx->G2.l=l'->κ G2.P.C=κ G.P.C->bj G2.P.s=bj G.P.s->(∀x∈l',cw x.root=true/\(κ x.dead)<=73/\gq x.dead=true)->ev G2=true:=λ{nx l' st G2} e e1 e2 e3 e4 h=>by rw[e]at hp;simp only[okP,Aa8,decide_eq_true_eq,List.all_eq_true,lN]at hp;exact Xu I e3 e4 ht (by rw[e1];exact hp.1.1) (by rw[e2];exact h) (by rw[e2];exact hp.2) (by rw[e2];exact hp.1.2) aa
 have hm:Vj (o2 M)=⟨G.next,ih G.l,λ_=>pF,G.P.st,0⟩:=by unfold Vj o2;rw[S.nx,S.l,aF]
 unfold Cv at R;rcases hk with h|h|h<;>simp only[h]at R
 ·refine LV (λn hX=>zZ hX) (λnx l' hX=>fin (l':=l') (nx:=nx) (st:=G.P.st) ?_ rfl rfl rfl rfl (λx hx=>?_)) R
  ·simp only[pj,jY,h,hm];show o2 (h2 _ (cD G.next (ih G.l) o.name o.n)).2=_;rw[nD,hX];rfl
  ·obtain⟨et,_,_,_,_,_,rfl⟩:=l0 hX;rcases List.mem_append.mp hx with hx|hx
   ·exact old x hx
   ·obtain rfl:=List.mem_singleton.mp hx;exact⟨rfl,qp,rfl⟩
 ·refine LV (λn hX=>Jl hX) (λnx l' hX=>fin (l':=l') (nx:=nx) (st:=G.P.st+1) ?_ rfl rfl rfl rfl (λx hx=>?_)) R
  ·simp only[pj,jY,h,hm];show o2 (vC _ (eG G.next (ih G.l) o.name G.P.st)).2=_;rw[qJ,hX];rfl
  ·obtain⟨et,sn,i,hs,hi,_,hr,_,_,rfl⟩:=qI hX;have m:=old _ (aL (I.ik.Ar hs hi hr).1.1);rcases uD hx with hx|rfl
   ·rcases List.mem_append.mp hx with hx|hx
    ·exact old x hx
    ·obtain rfl:=List.mem_singleton.mp hx;exact m
   ·exact⟨m.1,qp,rfl⟩
 ·refine LV (λn hX=>C' hX) (λnx l' hX=>fin (l':=l') (nx:=nx) (st:=G.P.st) ?_ rfl rfl rfl rfl (λx hx=>?_)) R
  ·simp only[pj,jY,h,hm];show o2 (h2 _ (dq G.next (ih G.l) o.name o.to)).2=_;rw[oz,hX];rfl
  ·obtain⟨vs,et,i,hs,_,hi,_,_,_,rfl⟩:=nW hX;have m:=old _ (aL (I.ik.G4 hs hi).1);rcases List.mem_append.mp hx with hx|hx
   ·exact old x hx
   ·obtain rfl:=List.mem_singleton.mp hx;exact⟨m.1,qp,rfl⟩
theorem Xz{rest:List iR}{c:Nat}(I:bq G)(S:oq G M)(aF:M.st=G.P.st)(ht:κ G.P.C<=400)(h:yt (o::rest) (o2 M) c=true)(hc:c<=bj G.P.s)(R:Cv G o s r G3)(T:Step G M o s r M' G3):∃c',yt rest (o2 M') c'=true/\c'<=bj G3.P.s:=by
 unfold yt at h;by_cases h1:o.kind=1
 ·rw[bp h1]at h;have K:=(Ac ae R).mL;unfold B8 at K;rw[bp (.inl h1)]at K;refine⟨c-3,?_,ae⟩;rcases T.pick with⟨_,_,rfl⟩|⟨_,rfl⟩
  ·exact h
  ·rw[VV M o h1];exact h
 ·rw[aO h1]at h;simp only[Aa8,Adk,decide_eq_true_eq]at h;have e:o2 M'=pj (o2 M) o:=by
   rcases T.pick with⟨rfl,hm,_⟩|⟨_,rfl⟩
   ·rcases h.1 with⟨⟨k,k2⟩,k3⟩|k
    ·exact(ab9 I S aF ht ae k k3 R).elim
    ·unfold hq at hm;have:=ia hm;omega
   ·exact abi M o ae
  rw[e];by_cases h9:o.kind=9
  ·rw[bp h9]at h;exact⟨0,h.2,bG _⟩
  ·rw[aO h9]at h;have K:=(Ac h9 R).mL;unfold B8 at K;rw[aO ae]at K;exact⟨c,h.2,ae⟩
end
def WZ(k:Int)(a b:List aj)(n:Int):iR:=⟨k,a,b,n,[]⟩
def Bx:iR:=WZ 0 [118] [] 64
def QV:List iR:=[WZ 4 [118,64,115] [] 0,WZ 5 [118,64,115] [99] 0,WZ 9 [] [] 0]
def DO:List iR:=[WZ 6 [99] [] 0,WZ 9 [] [] 0,WZ 8 [118] [] 0,WZ 9 [] [] 0,WZ 8 [99,64,115] [] 0,WZ 9 [] [] 0]
theorem KB{p:Nat × List ab × Nat}(hk:o.kind=0\/o.kind=4\/o.kind=5)(hc:94<=c)(ok:okP (pj p o)=true)(h:yt r (pj p o) c=true):yt (o::r) p c=true:=by unfold yt;rw[aO ae,aO ae,ok,h,fm hk,fm hc];rfl
theorem XA{p:Nat × List ab × Nat}(hk:o.kind=9)(h:yt r (pj p o) 0=true):yt (o::r) p c=true:=by unfold yt;rw[aO ae,bp hk,h,fm (.inr (.inr hk):o.kind=6\/o.kind=8\/o.kind=9)];simp
theorem ZO(a b:List iR)(ha:∀o∈a,o.kind=1)(hb:∀o∈b,o.kind=1)(bI:κ a<=20)(hc:185<=c):yt (Bx::(a++(QV++(b++DO)))) (1,[],2) c=true:=by refine KB (.inl rfl) ae al (KA a (c':=125) ha ae (KB (.inr (.inl rfl)) ae al (KB (.inr (.inr rfl)) ae al (XA rfl (yu _ (aE 0) ?_)))));exact KA b (c':=0) hb ae al
section
open Go.Maps
theorem JM:∀W:af,(Ab9 33).run Aag W=.ok (.agg (hX ⟨0,[],[],0,[]⟩ (nl) (nl))) W:=wI
theorem abf{l:List Hr}(h:aG lF w (.slice a n cap) l)(hk:k<κ l):∃b off,a=some ⟨b,off,none⟩/\b<w.heap.size/\w.rangeAt b (off+k*6) (Lt l[k]).toList:=by obtain⟨b,off,e,hb,_,hc⟩:=aG.get h Yc ae;exact Gf
theorem Zo{l:List WX}(h:aG wZ w (.slice a n cap) l)(hk:k<κ l):∃b off,a=some ⟨b,off,none⟩/\w.cell? ⟨b,off+k,none⟩=some (YL l[k]):=by obtain⟨b,off,e,hb,_,hc⟩:=aG.get h tw ae;exact⟨b,off,e,by have:=hc k hk 0 _ rfl;simpa using this⟩
theorem TG{l:List Int}(h:aC bA w (.slice a n cap) l)(hk:k<κ l):∃b off,a=some ⟨b,off,none⟩/\w.cell? ⟨b,off+k,none⟩=some (i6 l[k]):=by
 rcases h with⟨rfl,_⟩|⟨b,off,c,e,_,_,_,hc⟩
 ·cases hk
 ·cases e;exact⟨b,off,rfl,hc k hk⟩
theorem BE{p gb mb kb n:Nat}(A:bU w p gb H G)(AM:bg w mb kb n M):∀k,(PF H k\/k=p)->k≠mb/\k≠kb:=λk hk=>by
 obtain⟨_,a,_,c⟩:=AM;refine⟨λe=>by subst e;exact A.X8 a av av hk,λe=>?_⟩;subst e;rcases hk with h|rfl
 ·obtain⟨C,t,fr,h2⟩:=A.ga.pa.cellsOf h;obtain⟨_,D,⟨es,clock,hb,_⟩,_⟩:=c;rw[hb]at h2;cases h2
 ·exact c.ne A.e6 rfl
theorem Yt(N:gX n G b):oq G Lg:=⟨by rw[N.nx];rfl,by rw[N.l];rfl,by rw[N.nx];omega,rfl,λ_=>rfl,λx hx=>by rw[N.l]at hx;cases hx⟩
def WpI(w0:af)(p mb kb d0:Nat)(v:ah)(l:List Hr)(k:Nat)(W:af):Prop:=∃gb H G M c,bU W p gb H G/\bq G/\Ring G/\oq G M/\M.st=G.P.st/\bg W mb kb (2101*k) M/\(G.next<=1+k/\G.P.st<=2+k/\G.P.m<=3*k/\G.u.du<=1+k/\M.st<=2+k/\M.made<=k/\(κ G.P.C)<=400)/\Up w0 W/\(∀j,PF H j->w0.heap.size<=j)/\H.h.d=d0/\(yt ((l.map (·.d)).drop k) (o2 M) c=true/\c<=bj G.P.s)/\aG lF W v l/\∀j,PF H j->v.ownBlock≠some j
def qP(ys zs:List Hr):List Hr:=n' Bx::(ys++(QV.map n'++(zs++DO.map n')))
def x9(w0:af)(ys:List Hr)(k:Nat):Prop:=(∀y∈ys,y.d.kind=1/\Hs w0 y)/\(κ ys)<=k
theorem x9.snoc{w0:af}{ys:List Hr}(h:x9 w0 ys k){y:Hr}(hk:y.d.kind=1)(ho:Hs w0 y):x9 w0 (ys++[y]) (k+1):=⟨λz hz=>by
  rcases Aa3.1 hz with hz|hz
  ·exact h.1 z hz
  ·obtain rfl:=jF.1 hz;exact⟨hk,ho⟩,by simp;exact h.2⟩
def x9.next{w0:af}{ys:List Hr}(h:x9 w0 ys k):x9 w0 ys (k+1):=⟨h.1,Nat.le_succ_of_le h.2⟩
theorem GL{d:iR}(h1:κ d.name<=9)(h2:κ d.to<=9)(h3:d.data=[]):Hs w (n' d):=⟨⟨by show κ d.name<=_;omega,by show κ d.to<=_;omega,by show aY w nl d.data;rw[h3];exact aC.nil _ _⟩,by show κ d.data<=_;rw[h3];exact bG _⟩
theorem O4{nm:List aj}{n:Int}{y:WX}(h:aY w (YL y) y.l/\(κ y.l)<=140737488351232)(h1:κ nm<=9):Hs w (w8 nm n y):=⟨⟨by show κ nm<=_;omega,bG _,h.1⟩,h.2⟩
theorem Wg{w0:af}{ys zs:List Hr}(hy:x9 w0 ys 20)(hz:x9 w0 zs 20):(∀y∈qP ys zs,Hs w0 y)/\(κ (qP ys zs))<=50/\∀{c:Nat},185<=c->yt ((qP ys zs).map (·.d)) (1,[],2) c=true:=by
 have e:∀l:List iR,(l.map n').map (·.d)=l:=λl=>by rw[nI];exact List.map_id _
 refine⟨λy h=>?_,?_,λ{c} hc=>?_⟩
 ·simp only[qP,Aak,Aa3]at h;rcases h with rfl|h|h|h|h
  ·exact GL av av rfl
  ·exact(hy.1 y h).2
  ·obtain⟨d,hd,rfl⟩:=Abb.1 h;simp only[QV,Aak,List.not_mem_nil,or_false]at hd;rcases hd with rfl|rfl|rfl<;>exact GL av av rfl
  ·exact(hz.1 y h).2
  ·obtain⟨d,hd,rfl⟩:=Abb.1 h;simp only[DO,Aak,List.not_mem_nil,or_false]at hd;rcases hd with rfl|rfl|rfl|rfl|rfl|rfl<;>exact GL av av rfl
 ·have:=hy.2;have:=hz.2;simp only[qP,Aaj,Aae,Aac];show _+(3+(_+6))+1<=50;omega
 ·have h:=ZO (ys.map (·.d)) (zs.map (·.d)) (λo ho=>by obtain⟨y,h,rfl⟩:=Abb.1 ho;exact(hy.1 y h).1) (λo ho=>by obtain⟨y,h,rfl⟩:=Abb.1 ho;exact(hz.1 y h).1) (by rw[Aac];exact hy.2) hc;unfold qP;rw[Ab8,Aao,Aao,Aao,e,e];exact h
end
theorem PC(w0:af)(h:iM)(G:ch)(m:Nat)(ff:Bool)(D:DA w0 h G.P.C m ff)(I:bq G)(R:Ring G)(b:List aj)(K:W3 G b):Aaf Aag 14 #[pz h.d] w0 λe w'=>e=.returned (.bool true)/\DA w' h G.P.C m ff/\Touch (cK h) w0 w':=by have WK:=an (C3 w0 h G m ff D I R b K);clear D I R K;go_in;go_wp2_with fail;refine WK.mono ?_;rintro e w1⟨vr,vt,ks,rfl,se,r1,r2,d1,t1⟩;obtain⟨ra,rc,rfl⟩:=aG.slice r1;obtain⟨ta,tc,rfl⟩:=aG.slice r2;have LN:=an (show(aB (gy G.P.s) 4096).length<=100000 from by have:=gP (gy G.P.s) 4096;omega);obtain⟨sl,aJ⟩:=bE (aB (gy G.P.s) 4096);rw[<-aJ]at r1 r2 LN ⊢;obtain⟨rl,aK⟩:=bE (κ sl);obtain⟨n,hn⟩:∃y:Int,y=(κ G.l:Int):=⟨_,rfl⟩;obtain⟨c,hc⟩:∃y:Int,y=(κ (ks.filter (R8 (hW G (κ G.l)))):Int):=⟨_,rfl⟩;rw[<-aK]at r1 r2 ⊢;rw[<-hn,<-hc];obtain⟨D1,T1,R1,R2⟩:=bS d1 t1 r1 r2;clear aJ aK hn hc se r1 r2 d1 t1 WK;have s:=Fr.start w1;go_wp2_with(refine fw s ?_;intro _ w s);refine(zH w (.slice ra rl rc) (.slice ta rl tc) sl (aG.up R1 s.pure) (aG.up R2 s.pure) LN n c).mono ?_;refine ez ?_;intro w u s;go_wp2_with(refine fw s ?_;intro _ w s);refine br ?_;exact⟨rfl,D1.out.up s.pure,T1.out.iD s.pure⟩
def bU.clean{w w':af}(A:bU w p gb H G)(D:DA w' H.h G.P.C G.P.m G.P.fl)(T:Touch (cK H.h) w w'):bU w' p gb H G:=A.go ⟨A.ga.pa.e6.ax T A.ga.pa.tj,A.ga.pa.map.ax T A.ga.pa.s7,D⟩ (T.mono λ_ h=>.inr (.inr h))
section
open Go.Maps
theorem SU:prog.built 42 [(0,.string (strOf [118])),(1,.string (strOf [99]))]=some #[.string (strOf [118]),.string (strOf [99])]:=al
theorem XB:∀W:af,(Ac0 42 (.agg #[.string (strOf [118]),.string (strOf [99])]) (i6 0)).run Aag W=.ok (.string (strOf [118])) W:=wI
theorem XC:∀W:af,(Ac0 42 (.agg #[.string (strOf [118]),.string (strOf [99])]) (i6 1)).run Aag W=.ok (.string (strOf [99])) W:=wI
theorem YU(w0:af)(N:Int)(vt va:ah)(tl:List WX)(al:List Int)(ht:aG wZ w0 vt tl)(hb:∀y∈tl,aY w0 (YL y) y.l/\(κ y.l)<=140737488351232)(ha:aC bA w0 va al):Aaf Aag 4 #[i6 N,vt,va] w0 λe w'=>e=.returned (.bool true)/\Up w0 w':=by
 obtain⟨ta,tc,rfl⟩:=aG.slice ht;obtain⟨aa,ac,rfl⟩:=ha.slice;obtain⟨n,hn⟩:=bE (κ tl);obtain⟨m,hm⟩:=bE (κ al);obtain⟨HN,HM⟩:=aw hn hm;rw[<-hn]at ht ⊢;rw[<-hm]at ha ⊢;obtain⟨HT,HA,HB⟩:=aW ht ha hb;clear hn hm ht ha hb;go_in;go_wp2_with fail;refine(Pl w0).mono ?_;rintro e w1⟨rfl,u1⟩;go_wp2_with fail;refine(It _ N).mono ?_;rintro e w2 h;rcases h with⟨_,rfl,u2⟩|⟨h1,h2,p,gb,H,G,b,rfl,A2,u2,up,uf,NP⟩
 ·have U2:=an (u1.trans u2);exact uV
 obtain⟨S1,U2⟩:=aw u1.size (u1.trans u2);obtain⟨UP,UF,H4⟩:=aW (show w0.heap.size<=p from bO S1 up) (show ∀j,PF H j->w0.heap.size<=j from λj hj=>bO S1 (uf j hj)) h2;clear up uf h1 h2;by_cases bI:20<n
 ·have b1:((n:Int)>20)=True:=by simp;omega
  exact uV
 have b1:((n:Int)>20)=False:=ao
 by_cases m20:20<m
 ·have b2:((m:Int)>20)=True:=by simp;omega
  exact uV
 have b2:((m:Int)>20)=False:=ao
 by_cases aB:N<200
 ·have b3:=dU aB;exact uV
 have b3:=cG aB;have HK:=an (show n<=20/\m<=20/\200<=N from ae);have n20:n<=20:=ae
 clear bI m20 aB;go_wp2_with fail;refine(QD _).mono ?_;rintro e w3⟨mb,kb,rfl,m1,m2,AM,u3⟩;obtain⟨U3,UM,A3,bK⟩:=bS (U2.trans u3) (show w0.heap.size<=mb/\w0.heap.size<=kb from⟨bO U2.size m1,bO U2.size m2⟩) (A2.up u3) AM;have LT:=an (show p<w3.heap.size/\(∀j,PF H j->j<w3.heap.size)/\mb<w3.heap.size/\kb<w3.heap.size from by obtain⟨_,x,_,z⟩:=AM;exact⟨A3.out.e6.lt,A3.out.ga.pa.lt,x.lt,z.lt⟩)
 have I3:=Ia;have B0:=an (SN 0 64 [118]);clear m1 m2 S1 u1 u2 u3 A2 AM b1 b2 b3;have s:=Fr.start w3;go_wp2_with(first|(refine fw s ?_;intro _ w s)|(refine Xp s ?_;intro g w s));have s:=Fr.lit [n' Bx] Yc s rfl av;go_loopw [10,45] (λv i wr=>∃(k:Nat)(ys:List Hr),k<=n/\i=i6 k/\x9 w0 ys k/\Fr no w3 [qy lF 6 33 w3.heap.size v (n' Bx::ys)] wr) (λ_ i _=>n-(Aaq i).toNat)
 case atStart=>exact⟨0,[],bG _,rfl,⟨λ_ h=>gn,aE _⟩,s⟩
 case round=>
  clear s;obtain⟨k,ys,hk,rfl,hy,s⟩:=hrel;have LL:κ (n' Bx::ys)<=21:=by have:=hy.2;have:=HK.out;simp only[Aaj];omega
  obtain⟨xs,au⟩:=bE (n' Bx::ys);have HX:=an au;rw[<-au]at s LL;clear au;obtain⟨v0,c0,rfl⟩:=(ak.row s.row Yc).slice;by_cases hlt:k<n
  ·have b4:((k:Int)<(n:Int))=True:=by simp;omega
   have KL:k<κ tl:=cr
   obtain⟨bt,ot,rfl,ct⟩:=Zo HT KL;have CT:=U3.out.cell ct;have YB:=an (HB _ (cm KL));obtain⟨y,ay⟩:=bE (tl[k]);rw[<-ay]at CT YB;clear ct ay KL;by_cases aQ:k<m
   ·have b5:((k:Int)<(m:Int))=True:=by simp;omega
    have KA:k<κ al:=cr
    obtain⟨ba,oa,rfl,ca⟩:=TG HA KA;have CA:=U3.out.cell ca;obtain⟨z,hz⟩:=bE (al[k]);rw[<-hz]at CA;clear ca hz KA;obtain⟨BW,YK⟩:=aw (HE z [118] y) (hy.snoc (y:=w8 [118] z y) rfl (O4 YB av));go_wp2_with(first|(refine fw s ?_;intro _ w s)|(refine Xp s ?_;intro g w s)|(at_builtin;refine ZK Yc (w8 [118] z y) s ?_;intro a7 c7 w s));go_roundw
    case rel=>exact⟨k+1,ys++[w8 [118] z y],ae,aq,YK,by rw[show n' Bx::(ys++[w8 [118] z y])=xs++[w8 [118] z y] from by rw[HX.out];rfl];exact s.rem .head⟩
    case measure=>simp only[Aaq];omega
   ·have b5:((k:Int)<(m:Int))=False:=by simp;omega
    have YK:=an hy.next
    go_wp2_with(refine fw s ?_;intro _ w s);go_roundw
    case rel=>exact⟨k+1,ys,ae,aq,YK,by rw[<-HX.out];exact s⟩
    case measure=>simp only[Aaq];omega
  ·obtain rfl:n=k:=by omega
   have b4:((n:Int)<(n:Int))=False:=aq
   obtain⟨cb,B1,B2,B3⟩:=bS (show x9 w0 ys 20 from⟨hy.1,by have:=hy.2;have:=HK.out;omega⟩) (tN 4 [118,64,115]) (SO 5 [118,64,115] [99]) (SP 9);clear hy hk hlt;go_wp2_with(first|(refine fw s ?_;intro _ w s)|((with_reducible refine dS 22 3 _ ?_);refine fal ((QV.map n').flatMap lF).toArray 33 (λg=>cC g 3 3) s ?_;intro g w s)|(at_builtin;refine aa1 Yc (QV.map n') (κ xs+3) rfl s ?_;intro a7 c7 w s));have s:=s.rem .head;obtain⟨aN,ar⟩:=bE (xs++QV.map n');have bC:=an ar;rw[<-ar]at s;have L2:κ aN<=24:=by rw[ar,Aae];show _+3<=24;omega
   clear ar;go_loopw [10,72] (λv i wr=>∃(k:Nat)(zs:List Hr),k<=n/\i=i6 k/\x9 w0 zs k/\Fr no w3 [qy lF 6 33 w3.heap.size v (aN++zs)] wr) (λ_ i _=>n-(Aaq i).toNat)
   case atStart=>exact⟨0,[],bG _,rfl,⟨λ_ h=>gn,aE _⟩,by rw[Ab4];exact s⟩
   case round=>
    clear s;obtain⟨k,zs,hk,rfl,hy,s⟩:=hrel;have L3:κ (aN++zs)<=44:=by have:=hy.2;have:=HK.out;rw[Aae];omega
    obtain⟨aR,aD⟩:=bE (aN++zs);have aU:=an aD;rw[<-aD]at s L3;clear aD;obtain⟨v0,c0,rfl⟩:=(ak.row s.row Yc).slice;by_cases hlt:k<n
    ·have b4:((k:Int)<(n:Int))=True:=by simp;omega
     have KL:k<κ tl:=cr
     obtain⟨bt,ot,rfl,ct⟩:=Zo HT KL;have CT:=U3.out.cell ct;have YB:=an (HB _ (cm KL));obtain⟨y,ay⟩:=bE (tl[k]);rw[<-ay]at CT YB;clear ct ay KL;by_cases aT:0<m
     ·have b6:((m:Int)>0)=True:=by simp;omega
      obtain⟨j,hj⟩:=bE ((k+1)%m);have jm:j<m:=by rw[hj];exact uz _ aT
      have JE:=an hj;have KA:j<κ al:=cr
      obtain⟨ba,oa,rfl,ca⟩:=TG HA KA;have CA:=U3.out.cell ca;obtain⟨z,hz⟩:=bE (al[j]);rw[<-hz]at CA;obtain⟨nm,hnm⟩:∃x:List aj,x=if k%2=0 then [118] else [99]:=⟨_,rfl⟩;obtain⟨NM,NL⟩:=aw hnm (show κ nm<=9 from by rw[hnm];split<;>decide);clear ca hz KA hj hnm;have b7:((j:Int)<(m:Int))=True:=ao
      obtain⟨TM,WK,MJ⟩:=aW (show((k:Int).tmod 2)=(k:Int)%2 from rfl) (show IntKind.i64.wrap ((k:Int)+1)=(k:Int)+1 from bc (k+1) ae) (show(((k:Int)+1).tmod (m:Int))=(j:Int)from by rw[JE.out];rfl);have IX:=an (show ∀W:af,(Ac0 42 (.agg #[.string (strOf [118]),.string (strOf [99])]) (i6 ((k:Int)%2))).run Aag W=.ok (.string (strOf nm)) W from λW=>by
       rw[NM.out];by_cases h:k%2=0
       ·rw[bp h,show(k:Int)%2=0 from ae];exact XB W
       ·rw[aO h,show(k:Int)%2=1 from ae];exact XC W)
      obtain⟨BA,BW,YK⟩:=aW SU (HE z nm y) (hy.snoc (y:=w8 nm z y) rfl (O4 YB NL.out));go_wp2_with(refine fw s ?_;intro _ w s);refine kA (qy lF 6 33 w3.heap.size (.slice v0 (κ aR) c0) aR) s (λw s=>?_);iterate 3 refine kt ?_
      refine kt (v:=i6 ((k:Int)%2)) ?_ (hy:=ya (h:=by intro _;go_simp;exact TM.out));refine kt (v:=.string (strOf nm)) ?_ (hy:=ya (h:=by intro W;go_simp;rw[IX.out W];rfl));iterate 2 refine kt ?_
      refine kt (v:=i6 ((k:Int)+1)) ?_ (hy:=ya (h:=by intro _;go_simp;exact WK.out));iterate 2 refine kt ?_
      refine kt (v:=i6 (j:Int)) ?_ (hy:=ya (h:=by intro _;go_simp;rw[aO ae,MJ.out]));iterate 4 refine kt ?_
      refine kal (Lt (w8 nm z y)) 33 (λg=>cC g 1 1) (λg w u s=>?_);refine kap Yc (w8 nm z y) (λb c w s=>?_);refine kt ?_;refine kd (λw u s=>?_);go_wp2;go_roundw
      case rel=>exact⟨k+1,zs++[w8 nm z y],ae,aq,YK,by rw[show aN++(zs++[w8 nm z y])=aR++[w8 nm z y] from by rw[aU.out,Abe]];exact s.rem .head⟩
      case measure=>simp only[Aaq];omega
     ·have b6:((m:Int)>0)=False:=by simp;omega
      have YK:=an hy.next
      go_wp2_with(refine fw s ?_;intro _ w s);go_roundw
      case rel=>exact⟨k+1,zs,ae,aq,YK,by rw[<-aU.out];exact s⟩
      case measure=>simp only[Aaq];omega
    ·obtain rfl:n=k:=by omega
     have b4:((n:Int)<(n:Int))=False:=aq
     obtain⟨cc,B4,B5,B6⟩:=bS (show x9 w0 zs 20 from⟨hy.1,by have:=hy.2;have:=HK.out;omega⟩) (tN 6 [99]) (tN 8 [118]) (tN 8 [99,64,115]);clear hy hk hlt;obtain⟨nn,ag⟩:=bE (κ aR+6);have aH:=an ag;have cd:nn<=50:=ae
     clear ag;go_wp2_with(first|(refine fw s ?_;intro _ w s)|((with_reducible refine dS 22 6 _ ?_);refine ix ?_));refine an ?_;refine fal ((DO.map n').flatMap lF).toArray 33 (λg=>cC g 6 6) s ?_;intro g w s;go_wp2_with(at_builtin;refine ix ?_);refine an ?_;refine aa1 Yc (DO.map n') nn aH.out.symm s ?_ (ht:=underlying22) (hi:=Ia) (hz:=rfl);intro a7 c7 w s;go_wp2_with(refine fw s ?_;intro _ w s);obtain⟨R,UW⟩:=aw ((s.rem .head).row) (U3.out.trans s.pure);obtain⟨K1,K2,K3⟩:=Wg cb cc;obtain⟨l,hl⟩:=bE (qP ys zs);have bh:aR++DO.map n'=l:=by rw[hl,aU.out,bC.out,HX.out];simp[qP]
     rw[bh]at R;rw[<-hl]at K1 K2 K3;obtain⟨LN,HV,VB,bN,bQ,A9,bL,CN⟩:=Jw (show nn=κ l from by rw[<-bh,Aae,aH.out];rfl) (ak.row R.out Yc) (show ∀j,(Acg a7 nn c7).ownBlock=some j->w3.heap.size<=j from λj hj=>(R.out.aJ j hj).1) K1 K2 (A3.out.up s.pure) (bK.out.up s.pure) (show 185<=bj G.P.s from by have:=NP.room;have:=NP.few;have:=HK.out.2.2;omega);obtain⟨G0,L4⟩:=aw (K3 CN.out) (show κ G.P.C<=400 from by rw[NP.len];have:=H4.out;omega);clear s hl bh K1 K2 K3 L3 b4 HX bC aU B1 B2 B3 B4 B5 B6 B0 I3;go_loopw [109] (λi wr=>∃k:Nat,k<=nn/\i=i6 k/\WpI w0 p mb kb H.h.d (.slice a7 nn c7) l k wr) (λi _=>nn-(Aaq i).toNat)
     case atStart=>exact⟨0,bG _,rfl,gb,H,G,Lg,_,A9.out,NP.inv,NP.ring,Yt NP,by rw[NP.st];rfl,bL.out,⟨by rw[NP.nx];omega,by rw[NP.st];omega,by rw[NP.m];omega,by rw[NP.tx];omega,av,av,L4.out⟩,UW.out,UF.out,rfl,⟨G0.out,aE _⟩,HV.out,λj hj e=>by have:=VB.out j e;have:=LT.out.2.1 j hj;omega⟩
     case round=>
      obtain⟨k,hk,rfl,ab,H1,G1,M,c,a,i,rg,sm,st,am,bd,u,uf,hd,gd,hv,nv⟩:=hrel;by_cases hlt:k<nn
      ·have b3:((k:Int)<(nn:Int))=True:=by simp;omega
       have KL:k<κ l:=cr
       have KB:=an (show k<50 from by have:=bQ.out;omega);obtain⟨b0,off,rfl,aK,bJ⟩:=abf hv KL;have YO:=an (bN.out l[k] (cm KL));have GD:=an (show yt (l[k].d::(l.map (·.d)).drop (k+1)) (o2 M) c=true/\c<=bj G1.P.s from by rw[qi (by rw[Aac];exact KL),Adl]at gd;exact gd)
       obtain⟨y,hy⟩:=bE (l[k]);rw[<-hy]at bJ YO GD;obtain⟨I,RG,SS,ST,BD,bm,HD,cg,NV⟩:=Zn i rg sm st bd uf hd hv nv;obtain⟨u4,b4⟩:=az (ai wr (.cells (Lt y) 33)) (aI.new wr 33 (Lt y));obtain⟨w4,hw4⟩:=bE (wr.alloc (.cells (Lt y) 33));obtain⟨q9,aM⟩:=bE (wr.heap.size);obtain⟨bY,bU⟩:=aw hw4 aM;rw[<-hw4]at u4 b4;rw[<-aM]at b4;have U4:=an (u.trans u4);obtain⟨bF,A4,bo,bV⟩:=bS (YO.out.up U4.out) (a.up u4) (show bg w4 mb kb (2101*k) M from am.up u4) (aG.up hv u4);have QF:=an (show q9<w4.heap.size/\(∀j,PF H1 j->j<q9)/\mb<q9/\kb<q9/\p<q9/\b0<q9 from by obtain⟨_,x,_,z⟩:=am;rw[aM];exact⟨by rw[<-aM];exact b4.lt,a.ga.pa.lt,x.lt,z.lt,a.e6.lt,aK⟩)
       clear st bd uf hd gd hv nv hw4 aM hy sm rg;go_wp2_with(first
        | refine cM 33 111 (Lt y) (λj x hj=>bJ j x hj) ?_
        | refine bH 33 JM ?_
        | refine dX 33 16 112 wr (Lt y) 33 (hX ⟨0,[],[],0,[]⟩ (nl) (nl)) ?_
        | ((with_reducible refine rY _ _ ?_);refine ix ?_))
       rw[<-bU.out,<-bY.out];refine an ?_;go_wp2_with(refine arm ?_);refine(SK _ p _ H1 G1 A4 I ⟨cr,cr,cr,cr⟩ _ _ (2101*k) M bo cr SS cr cr _ (Xy GD.out.1) _ _ _ _ _ _ (λ_=>ST) bF.1 bF.2 (λhne j hj=>by have hb:=th YO.1.bs (Fz.2 hne) _ hj;have h1:=UM.out;have h2:=UP.out;have h3:=U4.size;exact⟨ae,ae,λhf=>by have:=bm.out j hf;omega,ae,ae⟩) (BE A4 bo)).mono ?_;rintro e w5⟨rfl,s2,r2,G3,gb',H',vp,M',aX,rV,A5,aS,hH,T5,NH⟩;have U5:=an (show Up w0 w5 from Touch.up T5 U4.out (λj hj=>by
        obtain⟨h1,h2⟩:=az UM.out UP.out;rcases hj with hj|rfl|rfl|rfl
        ·exact bm.out j hj
        ·exact h2
        ·exact h1.1
        ·exact h1.2))
       have aF:=an (show ∀j,PF H' j->w0.heap.size<=j from λj hj=>(NH.2 j hj).elim (bm.out j) (bO U4.out.size));have br:=an (show G3.next<=1+(k+1)/\G3.P.st<=2+(k+1)/\G3.P.m<=3*(k+1)/\G3.u.du<=1+(k+1)/\M'.st<=2+(k+1)/\M'.made<=k+1/\(κ G3.P.C)<=400 from by have:=BD.out;have:=rV.b1;have:=rV.b2;have:=rV.b3;have:=rV.b4;have:=rV.b5;have:=rV.c1;have:=rV.c2;omega)
       have bl:py G1:=⟨cr,cr,cr,cr⟩;have bw:py G3:=⟨cr,cr,cr,cr⟩;have aV:=an (show ∀j,PF H' j->(Acg (some ⟨b0,off,none⟩) nn c7).ownBlock≠some j from λj hj e=>(NH.2 j hj).elim (λh=>NV.out j h e) (λh=>by have e:some b0=some j:=e;cases e;have:=QF.out;omega))
       have VA:=an (show b0≠p/\b0≠mb/\b0≠kb from by obtain⟨h1,h2⟩:=az (VB.out b0 rfl) LT.out;omega)
       have bW:=an (aG.nP bV.out T5 (λb hb hf=>by
        have e:some b0=some b:=hb;cases e;have h2:=VA.out;rcases hf with hf|rfl|rfl|rfl
        ·exact NV.out _ hf rfl
        ·omega
        ·omega
        ·omega))
       have B5:=an (b4.ax T5 (λhf=>by
        have h2:=QF.out;rcases hf with hf|rfl|rfl|rfl
        ·have:=h2.2.1 _ hf;omega
        ·omega
        ·omega
        ·omega))
       obtain⟨b8,I5,S5,bD,R5,aP,DS⟩:=vL (show ¬PF H' q9 from λhf=>(NH.2 q9 hf).elim (λh=>by have:=QF.out.2.1 _ h;omega) (λh=>by have:=QF.out;omega)) rV.inv rV.sim (rV.st ST.out) (Ta I.out bl RG.out aX) (show H'.h.d=H.h.d from by rw[hH];exact HD.out) (λh9:y.d.kind=9=>HS I.out bl RG.out h9 aX);obtain⟨c',bx⟩:=Xz I.out SS.out ST.out (by have:=BD.out;omega) GD.out.1 GD.out.2 aX rV;obtain⟨bz,AG,bT⟩:=aW bx (Pj w5 p gb' H' G3 A5 rV.inv bw mb kb _ M' aS cr rV.sim cr cr (BE A5 aS)) (show ¬(PF H' kb\/kb=p)from λh=>(BE A5 aS kb h).2 rfl);clear bx bl bw hH aX rV NH A5 aS b4 T5;go_wp2_with fail;refine AG.out.mono ?_;rintro e w6⟨rfl,A6,bq,T6⟩;have U6:=an (show Up w0 w6 from Touch.up T6 U5.out (λj hj=>by
        have h1:=UM.out;rcases hj with hj|rfl|rfl
        ·exact aF.out j hj
        ·exact h1.1
        ·exact h1.2))
       have bB:=an (aG.nP bW.out T6 (λb hb hf=>by
        have e:some b0=some b:=hb;cases e;have h2:=VA.out;rcases hf with hf|rfl|rfl
        ·exact aV.out _ hf rfl
        ·omega
        ·omega))
       have B6:=B5.out.ax T6 (λhf=>by
        have h2:=QF.out;rcases hf with hf|rfl|rfl
        ·exact b8.out hf
        ·omega
        ·omega)
       have c0:w6.cell? (ad q9 0)=some (i6 y.d.kind):=B6.cell 0;have NN:2101*k+1+2100<=2101*(k+1):=ae
       by_cases h9:y.d.kind=9
       ·have k9:(y.d.kind==9)=true:=by simp[h9]
        obtain⟨bb,_,_,K,_⟩:=DS.out h9;have CL:=an (PC w6 H'.h G3 _ _ A6.ga.pa.dev I5.out R5.out bb K);rw[aP.out]at CL;have bZ:=an NN;clear h9 K NN;go_wp2_with(refine arm ?_);refine CL.out.mono ?_;rintro e w7⟨rfl,D7,T7⟩;have T8:=T7.mono (F':=λk=>PF H' k\/k=p) (λ_ h=>.inl (.inr (.inr h)));have U7:=an (show Up w0 w7 from Touch.up T7 U6.out (λj hj=>aF.out j (.inr (.inr hj))));have bX:=an (aG.nP bB.out T7 (λb hb hf=>by have e:some b0=some b:=hb;cases e;exact aV.out _ (.inr (.inr hf)) rfl))
        obtain⟨A7,a1⟩:=aw (A6.clean D7 T7) (bq.aac A6 T8 bT.out);go_wp2;go_roundw
        case rel=>exact⟨k+1,ae,aq,gb',H',G3,M',c',A7.out,I5.out,R5.out,S5.out,bD.out,a1.out.OI bZ.out,br.out,U7.out,aF.out,aP.out,bz.out,bX.out,aV.out⟩
        case measure=>simp only[Aaq];omega
       ·have k9:(y.d.kind==9)=false:=by simp[h9]
        obtain⟨a1,A7⟩:=aw (bq.OI NN) A6;clear h9 NN;go_wp2_with(refine arm ?_);go_roundw
        case rel=>exact⟨k+1,ae,aq,gb',H',G3,M',c',A7.out,I5.out,R5.out,S5.out,bD.out,a1.out,br.out,U6.out,aF.out,aP.out,bz.out,bB.out,aV.out⟩
        case measure=>simp only[Aaq];omega
      ·obtain rfl:nn=k:=by omega
       have b3:((nn:Int)<(nn:Int))=False:=aq
       obtain⟨x,hx,bf⟩:∃x,G1.l.map (iH G1.l)=[x]/\x.name=[99]:=by
        rw[sO (by rw[Aac,<-LN.out];exact aE _)]at gd;have h1:(M.l.map (fE M.l)).map (·.name)=[[99]]:=ia gd.1;have h2:=AI sm;unfold yq at h2;rw[h2,nI]at h1;generalize G1.l.map (iH G1.l)=L at h1 ⊢;rcases L with _|⟨x,_|⟨y,L⟩⟩
        ·simp at h1
        ·exact⟨x,rfl,by
          have:(hP.live x).name=[99]:=by simpa using h1
          exact this⟩
        ·simp at h1
       obtain⟨UE,HI,bM,XN⟩:=bS u i a bf;clear rg sm st am bd u uf hd gd hv nv;go_wp2_with fail;refine(rJ _ p _ _ _ a i).mono ?_;rintro e w6⟨v6,rfl,o6,u6⟩;rw[hx]at o6;obtain⟨a6,c6,rfl⟩:=(ak.row o6 iw).slice;obtain⟨PL,U6⟩:=aw (rJ _ p _ _ _ (bM.out.up u6) HI.out) (UE.out.trans u6);have X1:[x].length=1:=rfl;rw[X1];rw[hx]at PL;clear X1 hx bf a i;go_wp2_with fail;refine PL.out.mono ?_;rintro e w7⟨v7,rfl,o7,u7⟩;obtain⟨a8,c8,rfl⟩:=(ak.row o7 iw).slice;obtain⟨b9,cf,rfl,_,r9⟩:=EJ (ak.row o7 iw) (k:=0) Nat.zero_lt_one;have c9:w7.cell? ⟨b9,cf,none⟩=some (.string (strOf [99])):=by have:=r9 0 (.string (strOf x.name)) rfl;rw[XN.out]at this;simpa using this
       have U7:=an (U6.out.trans u7);have E9:((strOf [99]).toList==[99])=true:=by simp[strOf]
       have X1:[x].length=1:=rfl;rw[X1];clear X1 r9 o7 u7;go_wp2_with(refine arm ?_);go_ret;exact⟨rfl,U7⟩
end
section
variable {H:Type} {enc:Aab × ah->H} {W:af} {base:Nat} {v:ah} {d:DataW H} {ps:List MemPlace}
theorem tO:prog.cellsOf 30=1/\prog.cellsOf 3=1/\prog.cellsOf 5=1/\prog.bytesOf 5=1:=av
theorem Yb{n0:Nat}{cs:List ah}{x:DataW H × List MemPlace}(hf:DataW.trod enc Aag W 0 (λ_=>true) true n0 30 cs=some x)(hw:∀m∈x.1.weights Aag 30,m<=reachBytes):∃y:WX,cs=wZ y/\aY W (YL y) y.l/\(κ y.l)<=140737488351232:=by
 obtain⟨d,ps⟩:=x;obtain⟨c,rfl⟩:∃c,cs=[c]:=by
  rcases E0 Aau hf with⟨h1,h2⟩|⟨a,len,cap,elems,rest,n,_,aD,hx,_⟩
  ·exact⟨_,h1⟩
  ·exact⟨_,aD⟩
 obtain⟨l,r,s,t,_⟩:=DL aH (λ_=>True) Aau tO.2.2.1 (ZI underlying5) hf;obtain⟨a,cap,rfl⟩:=r.slice;refine⟨⟨a,cap,l⟩,rfl,r,?_⟩;rcases t with rfl|⟨ee,ss,rfl⟩
 ·grind [S8]
 ·have hm:=hw ((κ ee+κ ss)*1) (by simp[DataW.weights,Aau,tO.2.2.2]);have s':κ l<=κ ee+κ ss:=s;unfold reachBytes at hm;show κ l<=_;omega
theorem VM(ab:Value.okWide Aag W .any base 40 v)(hd:DataW.Trod enc Aag W 0 (λ_=>true) true 40 v d ps)(ai:∀m∈d.weights Aag 40,m<=reachBytes):∃l:List WX,aG wZ W v l/\∀y∈l,aY W (YL y) y.l/\(κ y.l)<=140737488351232:=by obtain⟨a0,len,cap,rfl⟩:=Adt underlying40 ab;obtain⟨fuel,hf⟩:=hd;obtain⟨ys,h1,_,_,h4⟩:=LU tw (λy:WX=>aY W (YL y) y.l/\(κ y.l)<=140737488351232) underlying40 tO.1 (λn cs y hy hm=>Yb hy (λm h=>ai m (hm m h))) hf;exact⟨ys,h1,h4⟩
theorem QT(ab:Value.okWide Aag W .any base 41 v)(hd:DataW.Trod enc Aag W 0 (λ_=>true) true 41 v d ps):∃l:List Int,aC bA W v l:=by
 obtain⟨a0,len,cap,rfl⟩:=Adt underlying41 ab;obtain⟨fuel,hf⟩:=hd;obtain⟨l,r,_⟩:=DL bA (λ_=>True) underlying41 tO.2.1 (λn c y hy=>by obtain⟨m,hm,_⟩:=DataW.trod_int underlying3 hy;simp at hm;exact⟨m,hm,trivial⟩) hf
 exact⟨l,r⟩
end
section
open Go.ChangeAt Go.ChangeShapes Go.WideShapes
theorem own:ownKnob prog.godebug=none:=al
theorem laidOut:laidOutB Aag=true:=al
theorem lifted(os:Os)(started:os.Started)(H:Type)(enc:Aab × ah->H):ReturnsInHanded {} Tryz.checked os 4 .any (Rows.wholePromoteSpec.pre6 enc Aag Tryz.f4 Rows.wholePromoteRow.domain false) (Rows.wholePromoteSpec.post enc Aag Tryz.f4 false true false false):=by
 refine returnsInHanded_of_change_sized (C:=Tryz.checked) own started al func4 (ChangeSpec.witness6 (enc:=enc) (C:=Tryz.checked) false ⟨#[],#[i6 0,nl,nl],[]⟩ 8 al al al al) ?_;intro W base args ds gs before ad hW an aT _;have ab:=ad;have ai:=hW;obtain⟨p,q,af,hV,rfl,ar,aB⟩:=hW;obtain⟨hA,aN⟩:=az af aT;rw[Tryz.params4]at hA ab aN;obtain⟨v0,aE,d0,ay,p0,aj,ag,rfl,rfl,h0,av⟩:=trodAll_cons hA;obtain⟨v1,aF,d1,aA,p1,ak,rfl,rfl,rfl,h1,aw⟩:=trodAll_cons av;obtain⟨v2,aG,d2,aC,p2,aD,rfl,rfl,rfl,h2,ax⟩:=trodAll_cons aw;obtain⟨rfl,rfl,rfl⟩:=trodAll_nil ax;obtain rfl:args=#[v0,v1,v2]:=by cases args;simp_all
 obtain⟨rfl,rfl⟩:=trodVars_none hV;have k0:=h0;have ao:∀x∈p0,x.block<W.heap.size:=by obtain⟨m,hm⟩:=k0;exact DataW.trod_lt m _ _ _ hm
 obtain⟨n0,rfl,b0⟩:=VL underlying3 (ab 0 3 v0 rfl rfl) h0;have k1:=h1;have aq:∀x∈p1,x.block<W.heap.size:=by obtain⟨m,hm⟩:=k1;exact DataW.trod_lt m _ _ _ hm
 obtain⟨l1,b1,c1⟩:=VM (ab 1 40 v1 rfl rfl) h1 (abJ aN (j:=1) rfl rfl);have k2:=h2;have au:∀x∈p2,x.block<W.heap.size:=by obtain⟨m,hm⟩:=k2;exact DataW.trod_lt m _ _ _ hm
 obtain⟨l2,b2⟩:=QT (ab 2 41 v2 rfl rfl) h2;clear af ad ab aN aT;refine(YU W n0 v1 v2 l1 l2 b1 c1 b2).mono λe W' ⟨he,ae⟩=>?_;subst he;exact⟨_,rfl,_,_,_,[],_,[],ai,trodAll_mk1 (shut_bool underlying4 _),(FA (Below.trod laidOut al (ia al) k0 ae ao) (FA (Below.trod laidOut al (ia al) k1 ae aq) (FA (Below.trod laidOut al (ia al) k2 ae au) trodAll_mk0))),rfl,ae.below.frame _,λh=>aa⟩
theorem acb:Rows.wholePromoteRow.holds Tryz.pinned (OpenSpec.ofChange Rows.wholePromoteSpec):=OpenClaim.holds_of_wide 4 Tryz.f4 rfl rfl rfl rfl rfl rfl rfl ⟨rfl,rfl,rfl,rfl,rfl⟩ rfl rfl rfl rfl rfl al func4 R2 (ia al) (by unfold Func.isWrapper;rw[aO (Fy al)];exact⟨rfl,rfl⟩) (λos started H enc _=>lifted os started H enc)
def proved:Rows.WholePromoteSaid:=acb
#print axioms proved
end
end Go.Proofs.YtkpjfnbbkohciaaGreat
