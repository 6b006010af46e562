/-
  aquifertop.WholeFull: for every input the law returns true, and each argument reads as it did. No condition.
-/
import Derived.Test.YtkpjfnbbkohciaaGreatCk
import Derived.Test.YtkpjfnbbkohciaaGreatCf
set_option maxRecDepth 100000
set_option maxHeartbeats 16000000
set_option linter.all false
open Go renaming TypeId->Aab,Oper->Abn,Calls->Aae,Ending->Ab1,splice->Aby,zeroValue->Ab9,wpAnyH->Acp,execOp->Abs
open Go.Proofs.Tryz renaming prog->Aag,underlying30->Aa0
open Go.Value renaming oneCell'->Ac8,slice->Acl,ownBlock->Aan,int->Acj
open List renaming range->Aaj,flatMap_cons->Abg,map_cons->Acf,length_map->Aad,getElem_map->Adp,replicate->Aac,mem_map->Abf,length_append->Aaf,length_range->Acx,length->κ
open Nat renaming zero_add->Abr
open Go.RowKit renaming intOf->Aat
open And renaming intro->Adb
open Int renaming toNat_natCast->Abq
open Go.Op renaming equalIn->Ack
open Go.World renaming size_alloc->Aa3
open UInt8 renaming ofNat->Ab8
open Go.Sem renaming run_bind->Aaw,run_pure->Acq
open Go.Result renaming andThen_ok->Aau
open Go.Instr renaming index->Abi
namespace Go.Proofs.YtkpjfnbbkohciaaGreat
open Go.Proofs.Tryz Go.RowKit Go.Sort
variable{nm:List (List aj)}{c0 j k:Nat}{M:cS}{a b:List aj}{r:Int}{G:ch}{w:af}
def dv(h:iE)(C:List cN)(m:Nat)(fl:Bool):As:=⟨cI h,λw=>DA w h C m fl,λh T hf=>h.az T hf⟩
def Y9(h:iE)(mb:Nat)(C:List cN)(m:Nat)(fl:Bool)(sl:Nat->Nat):As:=⟨λn=>cI h n\/n=mb,λw=>DA w h C m fl/\ck w mb sl,λh T hf=>⟨h.1.az T λb hb=>hf b (.inl hb),a7.az h.2 T (hf _ (.inr rfl))⟩⟩
def mr(b:Nat)(v:ah)(ys:List gM)(u:ah)(sp:List bM)(z:ah)(ps:List au):As:=jn (os b v ys) (jn (Gg rE 2 139 b u sp) (op b z ps))
theorem B'{g:Nat}{t:Aab}{u:hG}(h:aH w g t (uC u)):w.rangeAt g 2 (be u.iD).toList:=λj v hj=>by
 match j,hj with
 | 0,hj=>exact(h.cell 2).trans hj
 | 1,hj=>exact(h.cell 3).trans hj
 | 2,hj=>exact(h.cell 4).trans hj
 | (k+3),hj=>simp[be]at hj
section
variable {P:bx} {ops:Array Abn} {Q:Exit->Act->af->Prop} {F0:Nat->Prop} {x0 x w w':af} {L0 L L':List As} {a:Act} {o:Abn} {J:List Nat} {k mb pb:Nat} {h:iE} {C:List cN} {m:Nat} {fl:Bool} {sl aa:Nat->Nat} {H:aP} {vp:ah} {P':bu}
theorem Fr.Yt(s:Fr F0 x0 L w)(hm:dv h C m fl∈L:=by exact gR):DA w h C m fl:=s.p _ hm
theorem Fr.gds(s:Fr F0 x0 L w)(hm:Y9 h mb C m fl sl∈L:=by exact gR):DA w h C m fl/\ck w mb sl:=s.p _ hm
theorem Fr.dt(s:Fr F0 x0 L w)(d:DA w' h C m fl)(t:Touch (cI h) w w')(hU:mQ L (dv h C m fl) (dv h C m fl) L':=by exact vH):Fr F0 x0 L' w':=s.zK hU t d λn h=>⟨d.lt n h,.inl h⟩
theorem Fr.sn(s:Fr F0 x0 L w)(S:ck w' w.heap.size sl)(u:Up w w')(hU:mQ L (dv h C m fl) (Y9 h w.heap.size C m fl sl) L':=by exact vH):Fr F0 x0 L' w':=s.zK hU (Touch.bW u) ⟨(s.p _ hU.mem).up u,S⟩ λn h=>by
 have h1:=a7.lt S;rcases h with h|h
 ·exact⟨((s.p _ hU.mem).up u).lt n h,.inl h⟩
 ·exact⟨ae,.inr ae⟩
theorem xS.pn{st ba:Nat}(s:Fr F0 x L w)(A:PA w' ⟨w.heap.size,mb,h⟩ ⟨C,m,fl,sl,st,ba⟩)(u:Up w w')(hU:mQ L (Y9 h mb C m fl sl) (pl x ⟨w.heap.size,mb,h⟩ h.vp ⟨C,m,fl,sl,st,ba⟩) L':=by exact vH):xS F0 x L w L' w':=.zK s hU (Touch.bW u) ⟨A,λ_ h=>.inl h⟩ λn hn=>⟨A.lt n hn,by
  rcases hn with hn|hn|hn
  ·exact .inr (Nat.le_of_eq hn.symm)
  ·exact .inl (.inr hn)
  ·exact .inl (.inl hn)⟩
theorem Fr.tx(s:Fr F0 x L w)(S:ck w' mb sl)(T:Touch (·=mb) w w')(hU:mQ L (pl x ⟨pb,mb,h⟩ h.vp P') (Y9 h mb P'.C P'.m P'.fl sl) L':=by exact vH):Fr F0 x L' w':=by have A:=(s.p _ hU.mem).1;have F:∀n,(Y9 h mb P'.C P'.m P'.fl sl).F n->PF ⟨pb,mb,h⟩ n:=λn hn=>.inr hn.symm;exact s.zK hU (T.mono λn hn=>.inr (.inl hn)) ⟨A.dev.az T λb hb e=>A.sQ (e ▸ hb),S⟩ λn hn=>⟨eg (A.lt n (F n hn)) T.size,.inl (F n hn)⟩
theorem xS.ml{next:Nat}{l:List al}{sp:List bM}{ps:List au}{e:Ending}(s:Fr F0 x L w)(d:RQ (H.at vp) P' next l sp ps w e w')(hU:mQ L (pl x H vp P') (pl x H vp P') L':=by exact vH):∃va vc ta tc za zc ys,e=.returned (.tuple #[.agg (aS next (.slice va (κ l) vc)),.slice ta (κ sp) tc,.slice za (κ ps) zc,.int .i64 0])/\ys.map (·.d)=l/\xS F0 x L w (mr x.heap.size (.slice va (κ l) vc) ys (.slice ta (κ sp) tc) sp (.slice za (κ ps) zc) ps::L') w':=by
 obtain⟨v,u,z,rfl,a1,a2,a3,a4⟩:=d;obtain⟨va,vc,rfl⟩:=a1.cE.slice;obtain⟨ta,tc,rfl⟩:=(ak.row a2 BV).slice;obtain⟨za,zc,rfl⟩:=(ak.row a3 pw).slice;obtain⟨ys,rfl,b2,b3⟩:=a1;have f:∀n,(mr x.heap.size (.slice va (κ (ys.map (·.d))) vc) ys (.slice ta (κ sp) tc) sp (.slice za (κ ps) zc) ps).F n->w.heap.size<=n/\n<w'.heap.size:=λn h=>by
  rcases h with(h|⟨y,hy,h⟩)|h|h
  ·exact b2.aN n h
  ·exact(b3 y hy).aN n h
  ·exact a2.aN n h
  ·exact a3.aN n h
 refine⟨va,vc,ta,tc,za,zc,ys,rfl,rfl,xS.add s (xS.pg s a4 hU) ⟨⟨b2.mono s.t.size,λy hy=>(b3 y hy).mono s.t.size⟩,ak.mono a2 s.t.size,ak.mono a3 s.t.size⟩ f λE hE n h he=>?_⟩;have:=(f n h).1;rcases hU.sub E hE with rfl|hE
 ·have:=(s.f _ hU.mem n he).1;omega
 ·have:=(s.f E hE n he).1;omega
def Vg(w:af)(h:iE)(mb:Nat)(C:List cN)(m:Nat)(fl:Bool)(s:Nat->Nat)(D:DA w h C m fl/\ck w mb s):Aae Aag 56 #[pz h.d,pz mb,.int .u64 0,.int .u64 0] w λe w'=>e=.returned (pz w.heap.size)/\PA w' ⟨w.heap.size,mb,h⟩ ⟨C,m,fl,s,0,0⟩/\Up w w':=uZ w h mb C m fl s D.1 D.2 0 0
theorem kA{id:Nat}(D:As)(s:Fr F0 x0 L w)(h:∀w,Fr F0 x0 L w->RK P ops Q F0 x0 L0 L [] 0 a w)(hr:xT L D L0:=by exact RE)(hm:P.follows .mixedOrders=true:=by kernel_rfl):(Code.region id ops true).wp P Q a w:=ka L0 s hr.sub h hm
theorem kbx{t:TypeId}{n:Nat}{C:Array ah}{a':Nat->Act}(h:∀g w,Up x w->Fr F0 x0 (bk g t C::L) w->RK P ops Q F0 x0 L0 (bk g t C::L) J (k+1) (a' g) w)(hJ:J.contains k=false:=by rfl)(hi:ops[k]?=some o:=by rfl)(ho:o.op=.box t (.tmp n):=by rfl)(hx:(a.eval (.tmp n)).cells=C:=by exact zcv)(ha:∀g,a.put o.dst (pz g)=a' g:=by intro _;first|(simp only[Act.put,gh];rfl)|rfl)(hw:Region.wanted o (yielded ops a.tmps)=true:=by rfl)(hc:(LZ P ops (ml ops.size J k) k && Region.noSelect ops)=true:=by kernel_rfl)(hQ:∀c a w b,a.defers=b.defers->Q (.panic c) a w->Q (.panic c) b w:=by intro _ ⟨_,_⟩ _ ⟨_,_⟩ e h;cases e;exact h):RK P ops Q F0 x0 L0 L J k a x:=ko (λw u s K hK=>I7 ho hx (hK _ _ (bk w.heap.size t C::L) (.res s (.one (ai _ _) (aH.new ..) (λn h=>by
  have h:n=w.heap.size:=h;have:=(aH.new w t C).lt;omega))) (λA _ h=>bt _ h) (by
  have:=h w.heap.size _ (u.trans (ai _ _)) (s.alloc t C);rw[ha];exact this))) hJ hi hw hc hQ
end
section
open Go.Maps
theorem Jm(a:Option Addr)(n c:Nat)(s:Int):prog.built 65 [(1,.slice a n c),(3,i6 s)]=some (lM (nl) (.slice a n c) false s 0):=av
theorem Vk(a:Option Addr)(n c:Nat)(a2:Option Addr)(n2 c2:Nat)(tw:Bool)(s b:Int):(lM (.slice a n c) (.slice a2 n2 c2) tw s b).all (·.oneCell')=true:=by simp[lM,Ac8]
theorem aaG{G:ch}(I:bm G){q:py}(hq:q∈hN G (κ G.l)):RC (hN G (κ G.l)) q.1.loc=!q.2:=by
 rcases kz I _ (aG _) q hq with⟨h,e⟩|⟨⟨y,hy,h⟩,e⟩
 ·rw[e];cases hb:RC (hN G (κ G.l)) q.1.loc with
  | false=>rfl
  | true=>obtain⟨y,hy,p,hp,e2⟩:=(F' I _).mp hb;exact absurd e2 (I.mx _ h _ hy p hp)
 ·grind [F']
theorem SI{f:Int->Bool}{ks:List Int}{k:Int}(h:f k=true):κ ((ks++[k]).filter f)=κ (ks.filter f)+1:=by simp[h]
theorem WL{f:Int->Bool}{ks:List Int}{k:Int}(h:f k=false):κ ((ks++[k]).filter f)=κ (ks.filter f):=by simp[h]
theorem ju.len{w:af}{b r n mR:Nat}{D:DataW Unit}{L:List py}{ks:List Int}(h:ju w b r n D L ks mR)(rg:∀x∈L,0<=x.1.loc/\x.1.loc<=4096):κ ks<=4097:=by
 have:=ei ks ((Aaj 4097).map (λk:Nat=>(k:Int))) h.nd (λk hk=>by obtain⟨x,hx,rfl⟩:=h.sub k hk;have:=rg x hx;exact List.mem_map.mpr ⟨x.1.loc.toNat,List.mem_range.mpr ae,ae⟩)
 simp_all
def aap(h:iE)(G:ch)(m:Nat)(fl:Bool)(w:af)(e:Ab1)(w':af):Prop:=∃vr vt ks,e=.returned (.tuple #[.agg (lM vr vt false (κ G.l:Int) (κ (ks.filter (RC (hN G (κ G.l)))):Int)),.int .i64 0])/\Seen G ks/\dS w' vr (aB (gf G.P.s) 4096)/\dS w' vt (aB (gf G.P.s) 4096)/\DA w' h G.P.C m fl/\Touch (cI h) w w'
theorem Az{G:ch}(I:bm G):oh (gf G.P.s) (κ G.P.C):=λi hi=>by unfold gf at hi;have:=iy hi;have:=mt (I.s0 i).mpr ae;omega
theorem abH:zc Aag 65=lM nl nl false 0 0:=av
theorem abc:zc Aag 134=Ck (hole,false):=av
theorem ju.at{w:af}{b r n mR:Nat}{D:DataW Unit}{L:List py}{ks:List Int}(h:ju w b r n D L ks mR):b<w.heap.size/\r<w.heap.size/\∀w',w'.heap[b]?=w.heap[b]?->w'.heap[r]?=w.heap[r]?->ju w' b r n D L ks mR:=by obtain⟨⟨left,⟨es,clock,since,seen,c0,hb,x1,x2,x3,hr,x4⟩,h2⟩,h3,h4,h5,h6⟩:=h;exact⟨(p2.1 hb).1,(p2.1 hr).1,λw' e1 e2=>⟨⟨left,⟨es,clock,since,seen,c0,e1.trans hb,x1,x2,x3,e2.trans hr,x4⟩,h2⟩,h3,h4,h5,h6⟩⟩
def mp(b n:Nat)(l:List py):As:=⟨(·=b),λw=>Marks w b n l,λh T hf=>h.az T (hf b rfl)⟩
def rs(b r n:Nat)(D:DataW Unit)(l:List py)(ks:List Int)(mR:Nat):As:=⟨λk=>k=b\/k=r,λw=>ju w b r n D l ks mR,λh T hf=>h.at.2.2 _ (T.block b h.at.1 (hf b (.inl rfl))) (T.block r h.at.2.1 (hf r (.inr rfl)))⟩
def ic(n:Int):List ah:=[bz n]
theorem icw:hL ic 1:=⟨ax,λ_=>rfl,λx u h=>by rw[kl.1 h];rfl⟩
theorem Zh{w:af}{b:Nat}{v:ah}{l:List Int}(h:ak ic 1 3 w b v l):Own bz 3 w b v l:=by
 have e:∀l:List Int,l.flatMap ic=l.map bz:=λl=>by
  induction l with
  | nil=>rfl
  | cons x l ih=>rw[Abg,Acf];exact cb _ ih
 unfold ak at h;rw[e]at h;exact h
section
variable {F0:Nat->Prop} {x w w':af} {L L':List As} {b n n' r mR ab:Nat} {l l':List py} {D:DataW Unit} {ks ar:List Int}
theorem Fr.mt(s:Fr F0 x L w)(m:Marks w' b n' l')(t:Touch (·=b) w w')(hU:mQ L (mp b n l) (mp b n' l') L':=by exact vH):Fr F0 x L' w':=s.zK hU t m λk h=>⟨by rw[show k=b from h];exact m.lt,.inl h⟩
theorem Fr.m0(s:Fr F0 x L w):Fr F0 x (mp w.heap.size 0 []::L) (w.alloc (.map #[] 0)):=s.new (.one (ai ..) (Marks.made w) λn h=>by have h:n=w.heap.size:=h;have:=(Marks.made w).lt;omega)
theorem Fr.gm(s:Fr F0 x L w)(h:mp b n l∈L:=by exact gR):Marks w b n l:=s.p _ h
theorem Fr.gr(s:Fr F0 x L w)(h:rs b r n D l ks mR∈L:=by exact gR):ju w b r n D l ks mR:=s.p _ h
theorem Fr.rg(s:Fr F0 x L w)(R:ju w' b w.heap.size n D l [] mR)(g:w.grownBy w' none)(hU:mQ L (mp b n l) (rs b w.heap.size n D l [] mR) L':=by exact vH):Fr F0 x L' w':=s.zK hU (Touch.bg g λk e=>by cases e) R λk h=>by
 have:=R.at;rcases h with rfl|rfl
 ·exact⟨this.1,.inl rfl⟩
 ·exact⟨this.2.1,.inr (aG _)⟩
theorem Fr.rn(s:Fr F0 x L w)(R:ju w' b r n D l ar ab)(g:w.grownBy w' (some r))(hU:mQ L (rs b r n D l ks mR) (rs b r n D l ar ab) L':=by exact vH):Fr F0 x L' w':=s.zK hU (Touch.bg g λk e=>.inr (dB e).symm) R λk h=>by
 have:=R.at;rcases h with rfl|rfl
 ·exact⟨this.1,.inl (.inl rfl)⟩
 ·exact⟨this.2.1,.inl (.inr rfl)⟩
end
theorem CO(w:af)(h:iE)(G:ch)(m:Nat)(ff:Bool)(D:DA w h G.P.C m ff)(I:bm G)(R:Ring G)(b:List aj)(K:Wg G b):Aae Aag 22 #[.pointer (some ⟨h.d,0,none⟩)] w (aap h G m ff w):=by
 obtain⟨HI,HK,LN⟩:=aW I K I.ln;obtain⟨⟨tx,us,iD,ul,uS⟩,hu⟩:=bK (G.u);obtain rfl:uS=(κ G.P.C:Int):=by have:=K.ub.1;rwa [<-hu]at this
 obtain rfl:ul=40:=by have:=K.ub.2.1;rwa [<-hu]at this
 obtain rfl:us=G.P.ba:=by have:=K.ub.2.2.1;rwa [<-hu]at this
 refine NM ?_;intro HU BE;obtain⟨au,EX⟩:=aw (Az I) (show lh G.P.C iD b (iB (κ G.P.C) (aB (gf G.P.s) 4096)) G.ms from Mi);obtain⟨w0,rfl⟩:=bK w;have s:=Fr.from (A:=dv h G.P.C m ff) D D.lt;clear D I R K hu;go_in;go_wp2_with(refine fw s ?_;intro _ w s);refine(tC _ h _ m ff s.Yt).mono ?_;rintro e _⟨rfl,rfl⟩;go_wp2_with fail;refine(BE _ s.Yt).mono ?_;rintro e w⟨rfl,d2,t2⟩;have s:=s.dt d2 t2;clear d2 t2 BE;go_wp2_with(refine fw s ?_;intro _ w s);refine kb s (λw s=>?_);repeat refine kt ?_
 refine kc (λw u s=>kO w h _ m ff s.Yt) ?_;rintro w u s e _⟨rfl,rfl⟩;refine lK ?_;repeat refine kt ?_
 refine kd (λw u s=>?_);go_wp2_with fail;refine(kO w h _ m ff s.Yt).mono ?_;rintro e _⟨rfl,rfl⟩;go_wp2_with fail;refine(BR w (κ G.P.C) FF FF).mono ?_;rintro e w5⟨rfl,s5,u5⟩;have s:=s.sn s5 u5;go_wp2_with fail;refine(Vg _ h _ _ m ff _ s.gds).mono ?_;rintro e w6⟨rfl,pa,uu⟩;have s:=(xS.pn s pa uu).s;go_wp2_with(refine fw s ?_;intro _ w s);have ML:=Dn _ _ ⟨G.P.C,m,ff,j0 (κ G.P.C),0,0⟩ s.pa iD b _ G.ms EX G.next G.l HK.YN HI.wf HI.hE.aay LN (gf G.P.s) au rfl Fw
 refine ML.mono ?_;clear ML;intro e w7 hl;obtain⟨va,vc,ta,tc,za,zc,ys,rfl,aE,nx⟩:=xS.ml s hl;have HY:=an aE;have s:=nx.s;clear nx hl aE pa uu s5 u5;obtain⟨BU,aU⟩:=aA (Jm ta (κ (aB (gf G.P.s) 4096)) tc (κ G.l:Int)) (@run_makeMap Aag);go_wp2_with(refine fw s ?_;intro _ w s);have s:=s.m0;have q:=s.p (mr _ _ ys _ _ _ _) gR;refine(DC _ _ 0 [] s.gm (.slice za (κ G.ms) zc) G.ms (ak.row q.2.2 pw) Fw (Zb HI) true).mono ?_;rintro e w⟨rfl,m11,t11⟩;have s:=s.mt (show Marks w _ (κ G.ms+73*0) (hN G 0)from by rw[Abr]at m11;exact m11) t11;clear q m11 t11;have p2:(Aby (lM nl (.slice ta (κ (aB (gf G.P.s) 4096)) tc) false (κ G.l:Int) 0).toList 2 (#[.bool false]:Array ah).toList).toArray=lM nl (.slice ta (κ (aB (gf G.P.s) 4096)) tc) false (κ G.l:Int) 0:=rfl;go_wp2_with(refine fw s ?_;intro _ w s);change Fr _ w0 (mp ?mk _ _::bk ?q11 _ _::?rest) _ at s;go_loopw [73] (λi wr=>∃k:Nat,k<=κ G.l/\i=.int .i64 k/\Fr (cI h) w0 (mp ?mk (κ G.ms+73*k) (hN G k)::bk ?q11 65 (lM nl (.slice ta (κ (aB (gf G.P.s) 4096)) tc) false (κ G.l:Int) 0)::?rest) wr) (λi _=>κ G.l-(Aat i).toNat)
 case atStart=>exact⟨0,bE _,rfl,s⟩
 case round=>
  obtain⟨k,hk,rfl,s⟩:=hrel;have aH:wr.cell? ⟨_,1,none⟩=some (.slice va (κ G.l) vc):=(s.e5 (t:=73) gR).cell 1;obtain⟨aI,n32⟩:=aA HI.vF HI.hE.len;by_cases hlt:k<κ G.l
  ·have b3:((k:Int)<(κ G.l:Int))=True:=by simp;omega
   have KN:=an hlt;have hm:=aJ KN;obtain⟨bb,off,rfl,hbs,da,dc,rg,dp⟩:=cn (bq.cE ⟨ys,HY,(s.p (mr _ _ ys _ _ _ _) gR).1⟩) KN;have RG:=an (cd rg).2.2.2.2.2.2.2.1;clear rg dp;go_wp2_with(refine cK 87 82 (be (recAt G.l k).root) RG ?_);have TL:=IU _ _ ⟨G.P.C,m,ff,j0 (κ G.P.C),0,0⟩ s.pa (recAt G.l k).root 0 _ (λj=>bF G.P.C (a6 (bF G.P.C (recAt G.l k).root) j)) (HI.tr _ hm).F (λj hj=>(HI.tr _ hm).S hj);refine TL.mono ?_;clear TL;rintro e w⟨v2,rfl,ov,pg⟩;replace ov:bf w _ v2 (xM G (recAt G.l k)):=ov;have s:=(xS.pt s pg.1 pg.2 (λ_ h=>.inl h) ov).s;obtain⟨LT,SU⟩:=aw (Q3 HI hm) (oM KN);go_wp2_with fail;refine(DC _ _ _ _ s.gm v2 (xM G (recAt G.l k)) (ak.row s.Cy pw) (by have:=LT.out;omega) (Zc HI KN) false).mono ?_;rintro e w⟨rfl,m14,t14⟩;have s:=s.mt (show Marks w _ (κ G.ms+73*(k+1)) (hN G (k+1))from by rw[SU.out];exact m14.mono (by have:=LT.out;omega)) t14;clear m14 t14;go_wp2_with fail;go_roundw
   case rel=>exact⟨k+1,ae,aq,s.rem .head⟩
   case measure=>simp only[Aat];omega
  ·obtain rfl:k=κ G.l:=by omega
   have b3:((κ G.l:Int)<(κ G.l:Int))=False:=aq
   go_wp2_with(at_range;refine Rp rfl (.tmp 99) rfl rfl s.gm ?_);intro w DM aG ai g15 aD;have ax:=an s.gm.rg;have s:=s.rg ai g15;clear ai g15 aD;change Fr _ w0 (rs ?mk ?r _ DM _ _ _::_) _ at s;go_wp2_with fail;go_loopw [16] (λav wr=>∃ks mR,Fr (cI h) w0 (Gg ic 1 3 w0.heap.size av ks::rs ?mk ?r (κ G.ms+73*κ G.l) DM (hN G (κ G.l)) ks mR::bk ?q11 65 (lM nl (.slice ta (κ (aB (gf G.P.s) 4096)) tc) false (κ G.l:Int) (κ (ks.filter (RC (hN G (κ G.l)))):Int))::?rest) wr) (λ_ wr=>wr.rangeLeft ?mk ?r)
   case atStart=>exact⟨[],_,s.ZA⟩
   case round=>
    obtain⟨ks,mR,s⟩:=hrel;have RS:=an s.gr;have hkl:κ ks<=4097:=RS.len ax;obtain⟨aa,ac,rfl⟩:=(ak.row s.row icw).slice;go_wp2_with(at_next;refine V6 rfl (.tmp 100) rfl rfl RS ?_ ?_)
    ·intro ad;have S:Seen G ks:=⟨RS.nd,λk=>by simpa using ad k⟩;clear ad;have HS:=an S;clear S;have OA:=s.row (f:=ic);go_wp2_with fail;refine(QS _ w0.heap.size _ ks (Zh OA) ae).mono ?_;rintro e w⟨rfl,ar,perm,on,t21⟩;have s:=s.zK .head (B:=rsv (λn=>(Acl aa (κ ks) ac).ownBlock=some n)) t21 (λn h=>eg (OA.aN n h).2 t21.size) (λn h=>⟨eg (OA.aN n h).2 t21.size,.inl h⟩);clear OA t21;go_wp2_with fail;refine(s' _ _ ar on).mono ?_;rintro e w⟨vr,rfl,ag,u⟩;rw[GC perm,HS.set HI]at ag;obtain⟨ra,rc,rfl⟩:=(ak.row ag BV).slice;have s:=s.new (A:=Gg rE 2 139 w0.heap.size _ _) (.one u (ag.mono s.t.size) ag.aN);clear ag u on perm;obtain⟨c,hc⟩:=bK (κ (ks.filter (RC (hN G (κ G.l)))));have HC:=an hc;rw[<-hc]at s;clear hc;have p0:(Aby (lM nl (.slice ta (κ (aB (gf G.P.s) 4096)) tc) false (κ G.l:Int) (c:Int)).toList 0 (#[.slice ra (κ (aB (gf G.P.s) 4096)) rc]:Array ah).toList).toArray=lM (.slice ra (κ (aB (gf G.P.s) 4096)) rc) (.slice ta (κ (aB (gf G.P.s) 4096)) tc) false (κ G.l:Int) (c:Int):=rfl;go_wp2_with(refine fw s ?_;intro _ w s);refine bB ?_;have A:=s.pa (P:=⟨G.P.C,m,ff,j0 (κ G.P.C),0,0⟩);exact⟨.slice ra (κ (aB (gf G.P.s) 4096)) rc,.slice ta (κ (aB (gf G.P.s) 4096)) tc,ks,by rw[<-HC.out];rfl,HS,ak.row s.row BV,ak.row (s.p (mr _ _ ys _ _ _ _) gR).2.1 BV,A.dev,s.t⟩
    ·unfold Yn;intro q hq az w ab al hlt g16 aF aC;obtain⟨NQ,ao⟩:=aw (aaG HI hq) hlt;obtain⟨s,ii⟩:=aA (s.rn al g16) Aw;clear hq az al hlt g16 aF;obtain⟨c,hc⟩:=bK (κ (ks.filter (RC (hN G (κ G.l)))));have n4:c<=4097:=by rw[hc];exact bN (p5 _ _) hkl
     have HC:=an hc;rw[<-hc]at s;clear hc;have p4:(Aby (lM nl (.slice ta (κ (aB (gf G.P.s) 4096)) tc) false (κ G.l:Int) (c:Int)).toList 4 (#[.int .i64 ((c:Int)+1)]:Array ah).toList).toArray=lM nl (.slice ta (κ (aB (gf G.P.s) 4096)) tc) false (κ G.l:Int) ((c:Int)+1):=rfl;obtain⟨q,ow⟩:=q;cases ow with
     | true=>
      go_wp2_with(first|(refine fw s ?_;intro _ w s)|((with_reducible refine dJ 41 1 _ ?_);refine Y' #[.int .i64 q.loc] 3 (λg=>cv g 1 1) s ?_;intro _ w s)|(at_builtin;refine far icw q.loc s ?_;intro _ _ w s));go_roundw
      case rel=>exact⟨ks++[q.loc],ab,by rw[WL NQ.out,<-HC.out];exact s.sl⟩
      case measure=>rw[RS.out.left_eq,s.gr.left_eq];exact ao
     | false=>
      go_wp2_with(first|(refine fw s ?_;intro _ w s)|((with_reducible refine dJ 41 1 _ ?_);refine Y' #[.int .i64 q.loc] 3 (λg=>cv g 1 1) s ?_;intro _ w s)|(at_builtin;refine far icw q.loc s ?_;intro _ _ w s));go_roundw
      case rel=>exact⟨ks++[q.loc],ab,by rw[SI NQ.out,<-HC.out,show((c+1:Nat):Int)=(c:Int)+1 from rfl];exact s.sl⟩
      case measure=>rw[RS.out.left_eq,s.gr.left_eq];exact ao
end
theorem Rv:∀W:af,(Ab9 65).run Aag W=.ok (.agg (lM (nl) (nl) false 0 0)) W:=gE
theorem N1{f:Nat->Bool}(hj:j<4096):(j:Int)∈cx (aB f 4096)↔f j=true:=by grind [p0]
theorem Q0(I:bm G)(n3:∀i,G.P.s i≠3):iS (j0 (κ G.P.C)) (cx (aB (gf G.P.s) 4096))=G.P.s:=by
 funext j;obtain⟨ln,h0,h3⟩:=db I.ln (I.s0 j) (I.s3 j);rw[B0 _ _ (λi hi=>?_)]
 ·grind [N1,gf,j0]
 ·have:=xk _ _ hi;obtain⟨n,rfl⟩:∃n:Nat,i=(n:Int):=⟨i.toNat,ae⟩;grind [N1,gf]
def Ao(G:ch)(m:Nat)(fl:Bool):ch:=⟨⟨G.P.C,m,fl,G.P.s,G.P.ba+1,G.P.ba⟩,G.next,G.l,G.ms,G.u⟩
def abg(h:iE)(G:ch)(m:Nat)(fl:Bool)(w:af)(e:Ab1)(w':af):Prop:=∃gb H,e=.returned (.tuple #[.pointer (some ⟨gb,0,none⟩),.int .i64 0])/\H.h=h/\GA w' gb H (Ao G m fl)/\Touch (cI h) w w'/\w.heap.size<=gb/\w.heap.size<=H.pb/\w.heap.size<=H.mb
theorem J2(w:af)(h:iE)(G:ch)(m:Nat)(ff:Bool)(D:DA w h G.P.C m ff)(I:bm G)(R:Ring G)(b:List aj)(K:Wg G b)(hB:G.u.dq<=100000000/\G.next<=100000000/\G.P.ba<=100000000):Aae Aag 50 #[.pointer (some ⟨h.d,0,none⟩)] w (abg h G m ff w):=by
 obtain⟨HI,HK,LN⟩:=aW I K I.ln;obtain⟨⟨tx,us,iD,ul,uS⟩,hu⟩:=bK (G.u);obtain rfl:uS=(κ G.P.C:Int):=by have:=K.ub.1;rwa [<-hu]at this
 obtain rfl:ul=40:=by have:=K.ub.2.1;rwa [<-hu]at this
 obtain rfl:us=G.P.ba:=by have:=K.ub.2.2.1;rwa [<-hu]at this
 refine NM ?_;intro HU BE;have g1:((tx:Int)>281474976710652)=False:=by have:=hB.1;rw[<-hu]at this;apply cz;simp only at this;omega
 have g2:((G.next:Int)>281474976710652)=False:=by apply cz;omega
 have g3:((G.P.ba:Int)>281474976710652)=False:=by apply cz;omega
 have hba:G.P.ba<=100000000:=hB.2.2;obtain⟨au,EX⟩:=aw (Az I) (show lh G.P.C iD b (iB (κ G.P.C) (aB (gf G.P.s) 4096)) G.ms from Mi);obtain⟨w0,rfl⟩:=bK w;have s:=Fr.from (A:=dv h G.P.C m ff) D D.lt;clear D I R K hu hB;go_in;go_wp2_with fail;refine(tC _ h _ m ff s.Yt).mono ?_;rintro e _⟨rfl,rfl⟩;go_wp2_with fail;refine(BE _ s.Yt).mono ?_;rintro e w⟨rfl,d2,t2⟩;have s:=s.dt d2 t2;clear d2 t2 BE;go_wp2_with(refine fw s ?_;intro _ w s);refine kb s (λw s=>?_);repeat refine kt ?_
 refine kc (λw u s=>kO w h _ m ff s.Yt) ?_;rintro w u s e _⟨rfl,rfl⟩;refine lK ?_;repeat refine kt ?_
 refine kd (λw u s=>?_);go_wp2_with fail;refine(kO w h _ m ff s.Yt).mono ?_;rintro e _⟨rfl,rfl⟩;go_wp2_with fail;refine(BR w (κ G.P.C) FF FF).mono ?_;rintro e w5⟨rfl,s5,u5⟩;have s:=s.sn s5 u5;go_wp2_with fail;refine kA (Y9 h _ G.P.C m ff _) s (λw s=>?_);repeat refine kt ?_
 refine kj 3 ?_;refine kj 4 ?_;refine Yu (λw u s=>Vg w h _ _ m ff _ s.gds) ?_;rintro w u s e w'⟨rfl,pa,uu⟩;refine⟨_,_,rfl,.pn s pa uu,Wj,?_⟩;repeat(first|refine kx ?_|refine kt ?_)
 refine Yu (λw u s=>Dn w _ ⟨G.P.C,m,ff,j0 (κ G.P.C),0,0⟩ s.pa iD b _ G.ms EX G.next G.l HK.YN HI.wf HI.hE.aay LN (gf G.P.s) au rfl Fw) ?_;rintro w u s e w' hl;obtain⟨va,vc,ta,tc,za,zc,ys,rfl,aE,nx⟩:=xS.ml s hl;have HY:=an aE;refine⟨_,_,rfl,nx,Wj,?_⟩;repeat refine kt ?_
 refine kn (λ_ w u s=>?_);refine ks (λw s=>?_);repeat refine kt ?_
 refine kd (λw u s=>?_);go_wp2_with(refine fw s ?_;intro _ w s);obtain⟨q,A⟩:=aA (s.p (mr _ _ ys _ _ _ _) gR) (s.pa (P:=⟨G.P.C,m,ff,j0 (κ G.P.C),0,0⟩));have TX:=Ls _ (.slice ta (κ (aB (gf G.P.s) 4096)) tc) _ (ak.row q.2.1 BV) (λa k c e=>(ak.aN q.2.1 _ sL).2) _ _ A.map;refine TX.mono ?_;clear TX A;rintro e w11⟨rfl,aa,t11⟩;rw[Q0 HI.out HK.out.no3]at aa;have s:=s.tx aa t11;clear q aa t11;go_wp2_with(refine fw s ?_;intro _ w s);refine kA (Y9 h _ G.P.C m ff _) s (λw s=>?_);iterate 4 refine kt ?_
 refine kt (v:=.int .u64 ((G.P.ba:Int)+1)) ?_ (hy:=ya (h:=by intro _;go_simp;have:=dP (G.P.ba+1) ae;simpa using this));iterate 2 refine kt ?_
 refine kj 8 ?_;refine kj 9 ?_;refine kj 10 ?_;refine Yu (λw u s=>uZ w h _ _ m ff _ s.gds.1 s.gds.2 (G.P.ba+1) G.P.ba) ?_;rintro w u s e w'⟨rfl,pa,uu⟩;refine⟨_,_,rfl,.pn s pa uu,Wj,?_⟩;have BG:=w7 w.heap.size G.next va (κ G.l) vc za (κ G.ms) zc ⟨tx,G.P.ba,iD,40,(κ G.P.C:Int)⟩
 repeat(first|refine kx ?_|refine kt ?_)
 refine kbx (λgb w u s=>?_);repeat refine kt ?_
 refine kd (λw u s=>?_);go_wp2_with fail;refine bB ?_;obtain⟨A,q,hb⟩:=db s.pa (s.p (mr _ _ ys _ _ _ _) gR) (s.e5 (t:=153) gR);exact⟨_,⟨_,_,h⟩,rfl,rfl,⟨_,_,by show aH _ _ _ (fo _ G.next _ _ G.u);rw[<-HU.out];exact hb,bq.mono ⟨ys,HY,q.1⟩ (bE _),ak.mono q.2.2 (bE _),A⟩,s.t,(s.f _ (gR (b:=bk _ 153 _)) _ rfl).2.resolve_left (A.dev.jL hb ax ax ax),(s.f _ (gR (b:=pl _ _ _ _)) _ (.inl rfl)).2.resolve_left A.sX,(s.f _ (gR (b:=pl _ _ _ _)) _ (.inr (.inl rfl))).2.resolve_left A.sQ⟩
def aal(h:iE)(G:ch)(m:Nat)(fl:Bool)(w:af)(e:Ab1)(w':af):Prop:=∃p gb H,e=.returned (.tuple #[.pointer (some ⟨p,0,none⟩),.int .i64 0])/\H.h=h/\bT w' p gb H (Ao G m fl)/\Touch (cI h) w w'/\w.heap.size<=p/\w.heap.size<=gb/\w.heap.size<=H.pb/\w.heap.size<=H.mb
theorem Qu(w:af)(h:iE)(G:ch)(m:Nat)(fl:Bool)(D:DA w h G.P.C m fl)(I:bm G)(R:Ring G)(b:List aj)(K:Wg G b)(hB:G.u.dq<=100000000/\G.next<=100000000/\G.P.ba<=100000000):Aae Aag 20 #[.pointer (some ⟨h.d,0,none⟩)] w (aal h G m fl w):=by
 obtain⟨FO,BP⟩:=aw (J2 w h G m fl D I R b K hB) zG;clear D I R K hB;go_in;go_wp2_with fail;refine FO.mono ?_;rintro e w2⟨gb,H,rfl,hh,ga,t2,h1,h2,h3⟩;have ab:=an (BP gb);have u3:=ai w2 (.cells #[.pointer (some ⟨gb,0,none⟩)] 82);obtain⟨aa,B3,T3,S2,ad,HH⟩:=im (ga.up u3) (aH.new w2 82 #[.pointer (some ⟨gb,0,none⟩)]) (t2.iK u3) t2.size (Adb h1 (Adb h2 h3)) hh;clear hh ga t2 u3 h1 h2 h3 FO;go_wp2_with(first
  | ((with_reducible refine dI 82 #[(0,.tmp 14)] ?_);refine kU rfl 82 0 (.tmp 14) rfl _ rfl #[.pointer (some ⟨gb,0,none⟩)] ab ?_)
  | refine gS 82 15 #[.pointer (some ⟨gb,0,none⟩)] ?_)
 go_ret2;exact⟨w2.heap.size,gb,H,rfl,HH,⟨B3,aa⟩,T3,S2,ad.1,ad.2.1,ad.2.2⟩
theorem WW(I:bm G)(K:Wg G b)(m:Nat)(fl:Bool):bm (Ao G m fl):=by
 have hs:=K.ub.2.2.2.1;have e:Ao G m fl={G with P:={G.P with m:=m,fl:=fl}}:=by grind [Ao]
 rw[e];exact⟨I.hE,I.si,I.tr,I.md,I.ml,I.mx,I.s0,I.s2,I.s3,I.sb,I.st,I.ln,I.ft⟩
structure Je(G:ch)(b:List aj):Prop where
 inv:bm G
 ring:Ring G
 dsk:Wg G b
 bd:G.u.dq<=100000000/\G.next<=100000000/\G.P.ba<=100000000
 m:G.P.m=0
 one:∃x,G.l=[x]/\b9 x=b9 (dw 1 zj 4)/\vG G.P.C x 1=some (jM [97])
 three:∀(ks:List Int)(f:Int->Bool),ks.Nodup->(∀k,(k∈ks/\f k=true)↔∃y∈G.l,∃p,gb G.P.C y.root p/\p.loc=k)->κ (ks.filter f)=3
theorem VT{G G2:ch}(N:gl 64 G b)(T:kN (jW G) 0 1 (jM [97]) G2):pf G2:=by
 obtain⟨h2,h3,h4⟩:=db T.st T.m T.u;have e1:G2.next=2:=T.next
 have e2:G2.P.st=G.P.st:=h2;have e3:G2.P.m<=G.P.m+3:=h3;have e4:G2.u=G.u:=h4;exact⟨ae,by rw[e2,N.st];omega,by rw[N.m]at e3;omega,by rw[e4,N.tx];omega⟩
theorem R4{G G2 G3:ch}{b b3:List aj}(N:gl 64 G b)(T:kN (jW G) 0 1 (jM [97]) G2)(f:eS G2=true)(hb:κ b3=cA G2.l)(K:Cm G2 b3)(h:mN G2 b3 G3):Je G3 b3:=by
 obtain⟨I2,F2⟩:=aA (T.inv f) (VT N T);have R1:Ring (jW G):=⟨N.ring.le,N.ring.here⟩;obtain⟨ats,CO⟩:=vO I2 h;obtain⟨D3,R3⟩:=yd I2 F2 (R1.congr (YO N) T.u T.Qi) h K;obtain⟨x,hx,hs⟩:=aa7 N T;have hm:x∈G2.l:=aa
 obtain⟨st,nx,tx,ab⟩:=iJ F2.st F2.nx F2.tx CO.ba;have ctx:=CO.tx;refine⟨I2.com CO hb ae,R3,D3,⟨ae,by rw[CO.nx];omega,ae⟩,CO.m,⟨x,by rw[CO.l];exact hx,hs,by rw[CO.read I2 hm ae];exact VV T hx hs⟩,λks f hk hf=>?_⟩;refine X7 N T I2 hx hs hk (λk=>?_);rw[hf k,CO.l];constructor
 ·rintro⟨y,hy,p,hp,e⟩;exact⟨y,hy,p,(CO.inT I2 hy p).mp hp,e⟩
 ·rintro⟨y,hy,p,hp,e⟩;exact⟨y,hy,p,(CO.inT I2 hy p).mpr hp,e⟩
theorem DA.fl0{h:iE}{C:List cN}{fl:Bool}(D:DA w h C 0 fl):DA w h C 0 true:=by obtain⟨v,h1,h2,h3,h4,h5,h6,h7⟩:=D;exact⟨v,h1,h2,h3,h4,h5,h6,λ_=>Md ae⟩
theorem Je.walk(A:Je G b){ks:List Int}(S:Seen G ks):κ (ks.filter (RC (hN G (κ G.l))))=3:=by
 refine A.three ks _ S.nd (λk=>?_);constructor
 ·rintro⟨_,h⟩;exact(F' A.inv k).mp h
 ·intro h;have h2:=(F' A.inv k).mpr h;refine⟨?_,h2⟩;unfold RC at h2;obtain⟨x,hx,e,_⟩:=iy h2;exact(S.all k).mpr ⟨x,hx,e⟩
theorem J6(S:o8 G M):Eg (G.l.map (jB G.l)) (M.l.map (fQ M.l)):=by unfold Eg;rw[S.l,vY,vY];refine List.map_congr_left (λx _=>?_);show fQ (j1 G.l) (b9 x)=hT.live (jB G.l x);unfold fQ jB hT.live JV;simp[xe,Cb,ZW,ss3,ss7]
theorem PL(I:bm G):κ (G.l.map (jB G.l))<=32:=by rw[Aad];exact I.hE.len
theorem S1{l:List al}(h:k<κ (l.map (fQ l))):(l.map (fQ l))[k]=fQ l (recAt l k):=by grind [b']
theorem JW(h:ef a=true):pN a []=a:=by grind [pN]
theorem JX(h:ef a=true)(h2:ef b=true)(h0:b≠[]):pN a b=a++64::b:=by grind [pN]
theorem N5(h:ef b=true):b≠[]:=by rintro rfl;revert h;decide
theorem HP(ha:ef a=true)(hb:ef b=true):cO (a++64::b)=some (a,b):=by
 have h1:(a++64::b).take (κ a)=a:=aq
 have h2:(a++64::b).drop (κ a+1)=b:=aq
 grind [Pz]
theorem hK.full{next:Nat}{l:List al}(F:hK next l)(hk:k<κ l):dF l (d' l (recAt l k).id)=.ok k/\(κ (d' l (recAt l k).id))<=100:=by
 obtain⟨hm,nm⟩:=aA (aJ hk) (λx hx=>((bH x).mp (F.rt x hx)).2.2.2.2.1);obtain⟨i,hi,p1,p2⟩:=ca F.gk hm;have e:i=k:=F.gk.mm hi hk p2;subst e;have short:∀x∈l,κ x.name<=24:=λx hx=>oO (nm x hx);have pl:∀x∈l,∀j,j<κ l->recAt l j=x->eb l (bY x)=some j:=λx hx j hj ej=>by obtain⟨j',h1,h2,h3⟩:=F.placeOf hx;rw[h2,F.gk.mm h1 hj aa]
 cases hs:(recAt l i).aU with
 | false=>rw[L5 p1 hs,JW (nm _ hm)];refine⟨?_,aQ⟩;have h1:=pl _ hm i hi rfl;rw[show bY (recAt l i)=⟨0,(recAt l i).name⟩ from by grind [bY]]at h1;exact A' (A9 (nm _ hm)) h1 rfl
 | true=>obtain⟨v,hv,ev,v0⟩:=F.ov _ hm hs;obtain⟨j,hj,q1,q2⟩:=ca F.gk hv;rw[L6 p1 hs (by rw[<-ev];exact q1),q2,JX (nm _ hv) (nm _ hm) (N5 (nm _ hm))];grind [bY,recAt,Ba,HP,N5]
theorem QA(I:bm G)(S:o8 G M)(hk:k<κ M.l)(hj:(j:Int)<(fQ M.l (recAt M.l k)).blocks):∃s,e4 G.l (fQ M.l (recAt M.l k)).name (j:Int)=.ok k/\vG G.P.C (recAt G.l k) j=some s/\j5 M (fQ M.l (recAt M.l k)).name (j:Int)=(s,0):=by
 have ar:k<κ G.l:=by rw[S.l,nA]at hk;exact hk
 have hm:=aJ ar;refine NN ?_;intro e1 e2;rw[e2]at hj;rw[e1];have hb:=((bH _).mp (I.hE.rt _ hm)).2.2.2.1.2;have hf:=Ej (I.hE.full ar).1 (i:=(j:Int)) ae;have hr:=S.rd _ hm j ae;refine⟨_,hf,hr,?_⟩;rw[Gl (by rw[S.l,pI];exact hf),S.l,a'];rfl
theorem Er(I:bm G)(S:o8 G M)(hk:k<κ M.l):(1:Int)<=(fQ M.l (recAt M.l k)).blocks/\(fQ M.l (recAt M.l k)).blocks<=64/\(κ (fQ M.l (recAt M.l k)).name)<=100:=by
 have ar:k<κ G.l:=by rw[S.l,nA]at hk;exact hk
 refine NN ?_;intro e1 e2;rw[e1,e2];have hb:=((bH _).mp (I.hE.rt _ (aJ ar))).2.2.2.1;exact⟨hb.1,hb.2,(I.hE.full ar).2⟩
theorem CC(w:af)(va vb:ah)(la lb:List hT)(ha:D2 w va la)(hb:D2 w vb lb)(hl:κ la<=1000)(he:Eg la lb):Aae Aag 10 #[va,vb] w λe w'=>e=.returned (.bool true)/\Up w w':=by
 obtain⟨a,ca,rfl⟩:=aI.slice ha;have aR:κ lb=κ la:=by rw[he,Aad]
 obtain⟨b,cb,rfl⟩:=aI.slice hb;rw[aR]at hb ⊢;obtain⟨n,hn⟩:=bK (κ la);rw[<-hn]at ha hb hl ⊢;obtain⟨HA,HB,HE,HN,HL⟩:=eI ha hb he hn aR;have hne:((n:Int) != (n:Int))=false:=aq
 clear hn aR;go_in;go_wp2;go_loopw [14] (λi wr=>∃k:Nat,k<=n/\i=i6 k/\Up w wr) (λi _=>n-(Aat i).toNat)
 case atStart=>exact⟨0,bE _,rfl,Up.refl _⟩
 case round=>
  obtain⟨k,hk,rfl,ar⟩:=hrel;have UR:=an ar;by_cases hlt:k<n
  ·have b3:((k:Int)<(n:Int))=True:=by simp;omega
   obtain⟨KA,KB⟩:=aw (show k<κ la from by rw[<-HN.out];exact hlt) (show k<κ lb from by rw[HL.out,<-HN.out];exact hlt);obtain⟨ba,oa,ea,_,ra⟩:=J5 (aI.up HA UR) KA.out;obtain⟨bb,ob,eb,_,rb⟩:=J5 (aI.up HB UR) KB.out;subst ea;subst eb;have EQ:=an (show lb[k]'KB.out=(la[k]'KA.out).live from by simp only[show lb=la.map hT.live from HE.out,Adp]);obtain⟨x,hx⟩:=bK (la[k]'KA.out);rw[EQ.out]at rb;rw[<-hx]at ra rb;obtain⟨RA,RB,NB⟩:=aW ra rb (aH.new wr 45 (hp x));have cz:(wr.alloc (.cells (hp x) 45)).cell? (ad wr.heap.size 2)=some (i6 x.dead):=NB.cell 2;have fz:=NB.free 2;clear hx EQ;go_wp2_with(refine arm ?_);rw[show(hp x).setIfInBounds 2 (i6 0)=hp x.live from rfl];obtain⟨b2,u2⟩:=aA (aH.new wr 45 (hp x.live)) (ai wr (.cells (hp x.live) 45));have r2:=u2.range RB;obtain⟨w2,hw2⟩:=bK (wr.alloc (.cells (hp x.live) 45));rw[<-hw2]at b2 u2 r2 ⊢;obtain⟨q,hq⟩:=bK (wr.heap.size);rw[<-hq]at b2 ⊢;obtain⟨y,hy⟩:=bK (x.live);rw[<-hy]at b2 r2;clear hw2 hq cz fz hy;have NE:=an (λW:af=>S0 y y W);have aa:decide (y=y)=true:=aq
   rw[aa]at NE;have II:=an (Av y);refine e3 (S:=λW=>aH W q 45 (hp y)/\W.rangeAt bb (ob+k*4) (hp y).toList) av ?_;change Acp _ _ _ _ _ 6 #[false,false,false,false,false,false] _ (w2.drew);have ud:=Up.drew (Up.refl w2);have F0:(λW=>aH W q 45 (hp y)/\W.rangeAt bb (ob+k*4) (hp y).toList) w2.drew:=⟨b2.up ud,ud.range r2⟩;generalize w2.drew=w3 at *;refine tb 0 rfl (yp (λW h=>h.1.range) II underlying45) ?_;refine ta 1 ?_;refine nf ?_;refine tb 4 rfl (yp (λW h=>h.2) II underlying45) ?_;refine tb 5 rfl (ya (h:=WX (.tmp 22) (.tmp 26) rfl y rfl rfl)) ?_;refine nc ?_;clear NE;go_wp2;have e1:(k:Int)+1=((k+1:Nat):Int):=ae
   have KN:=an hlt;go_roundw
   case rel=>exact⟨k+1,hlt,rfl,((UR.trans u2).trans ud)⟩
   case measure=>simp only[Aat];have:=KN.out;omega
  ·have b3:((k:Int)<(n:Int))=False:=by simp;omega
   go_wp2;go_ret;exact⟨rfl,UR⟩
section
open Go.Maps
theorem bh.Dp{mb kb n n':Nat}(h:bh w mb kb n M)(hn:n<=n'):bh w mb kb n' M:=by obtain⟨vb,a,b,c⟩:=h;exact⟨vb,a,b,c.mono hn⟩
theorem Sk(s:List aj)(n:Int):prog.built 33 [(0,i6 3),(1,.string (strOf s)),(3,i6 n)]=some (gi ⟨3,s,[],n,[]⟩ (nl) (nl)):=av
theorem OH(w:af)(p gb:Nat)(H:aP)(G:ch)(A:bT w p gb H G)(I:bm G)(B:pf G)(mb kb n:Nat)(M:cS)(AM:bh w mb kb n M)(hn:n<800000)(SM:o8 G M)(m1:M.st<=100000000)(m2:M.made<=100000000)(aS:∀k,(PF H k\/k=p)->k≠mb/\k≠kb):Aae Aag 13 #[pz p,pz mb] w λe w'=>e=.returned (.bool true)/\bT w' p gb H G/\bh w' mb kb (n+2100) M/\Touch (λk=>PF H k\/k=mb\/k=kb) w w':=by
 obtain⟨IM,N⟩:=aA (Th I B SM m1 m2) (λo=>H8 I B SM o);obtain⟨aT,au,HN,ao⟩:=bR N AM hn aS;have al:=an (show ∀k,(PF H k\/k=mb\/k=kb)->k<w.heap.size from λk hk=>by
  obtain⟨_,a,_,c⟩:=AM;rcases hk with h|rfl|rfl
  ·exact A.ga.pa.lt k h
  ·exact a.lt
  ·exact c.lt)
 have ML:=an (show ∃vb,Aae Aag 12 #[pz mb] w λe w'=>∃v,e=.returned v/\zu w' w.heap.size v (M.l.map (fQ M.l))/\Up w w' from by obtain⟨vb,a,b,c⟩:=AM;exact⟨vb,PY w _ _ _ _ _ _ _ a (bq.cE b) IM.hl⟩)
 obtain⟨vb,aG⟩:=ML.out;clear ML hn m1 m2 aS N;go_in;go_wp2_with fail;refine aG.mono ?_;rintro e w1⟨v,rfl,ov,u1⟩;obtain⟨L,hL⟩:=bK (M.l.map (fQ M.l));obtain⟨HL,LL⟩:=aw hL (show κ L=κ M.l from by rw[hL];exact(Aad ..));have aR:κ L<=32:=by rw[LL.out];exact(by rw[SM.l,nA];exact I.hE.len)
 rw[<-hL]at ov;have OV:=an (ak.row ov iw);obtain⟨a,cap,rfl⟩:=(ak.row ov iw).slice;clear hL;go_wp2_with fail;refine(wE _ p _ H G (A.up u1) I).mono ?_;rintro e w2⟨va,rfl,oa,u2⟩;go_wp2_with fail;refine(CC _ _ _ _ L (ak.row oa iw) (aI.up OV u2) (by have:=(PL I);omega) (by rw[HL.out];exact(J6 SM))).mono ?_;rintro e w3⟨rfl,u3⟩;have U3:=an ((u1.trans u2).trans u3);go_wp2;go_loopw [22] (λi wr=>∃k:Nat,k<=κ L/\i=i6 k/\bT wr p gb H G/\bh wr mb kb (n+65*k) M/\Touch (λk=>PF H k\/k=mb\/k=kb) w3 wr) (λi _=>κ L-(Aat i).toNat)
 case atStart=>exact⟨0,bE _,rfl,(A.up U3),(au.up U3),Touch.refl _ _⟩
 case round=>
  obtain⟨k,hk,rfl,ar,mr,tr⟩:=hrel;by_cases hlt:k<κ L
  ·have b3:((k:Int)<(κ L:Int))=True:=by simp;omega
   have KM:=an (show k<κ M.l from by rw[<-LL.out];exact hlt);obtain⟨b,off,ea,_,ra⟩:=J5 (aI.tf (aI.up (aI.up OV u2) u3) tr (λc hc h=>by have:=al c h;have:=(ov.aN c hc).1;omega)) hlt;subst ea;have ex:L[k]=fQ M.l (recAt M.l k):=by
    have:∀(L':List hT)(h:L'=M.l.map (fQ M.l))(h2:k<κ L'),L'[k]=fQ M.l (recAt M.l k):=by rintro _ rfl h2;exact S1 h2
    exact this L HL hlt
   rw[ex]at ra;obtain⟨RB,BL⟩:=aw (λ(j:Nat) (hj:(j:Int)<(fQ M.l (recAt M.l k)).blocks)=>QA I SM KM hj) (Er I SM KM);obtain⟨x,hx⟩:=bK (fQ M.l (recAt M.l k));rw[<-hx]at ra RB BL;obtain⟨UX,BX⟩:=aw (ai wr (.cells (hp x) 45)) (aH.new wr 45 (hp x));clear hx ex;go_wp2_with(refine arm ?_);obtain⟨w4,hw4⟩:=bK (wr.alloc (.cells (hp x) 45));obtain⟨q,hq⟩:=bK (wr.heap.size);have QL:=an (show w.heap.size<=q from by rw[hq];exact bN U3.size tr.size);rw[<-hw4,<-hq]at BX ⊢;rw[<-hw4]at UX;have aE:x.blocks<=64:=BL.2.1;clear hw4 hq;obtain⟨w0,aF⟩:=bK (wr);subst aF;go_loopw [8] (λi wr=>∃j:Nat,(j:Int)<=x.blocks/\i=i6 j/\bT wr p gb H G/\bh wr mb kb (n+65*k+j) M/\Touch (λk=>PF H k\/k=mb\/k=kb) w3 wr/\aH wr q 45 (hp x)) (λi _=>x.blocks.toNat-(Aat i).toNat)
   case atStart=>exact⟨0,by have:=BL.1;omega,rfl,(ar.up UX),(mr.up UX),(tr.iK UX),BX⟩
   case round=>
    obtain⟨j,hj,rfl,aj,mj,tj,bj⟩:=hrel;have c0:wr.cell? (ad q 0)=some (.string (strOf x.name)):=bj.cell 0;have c1:wr.cell? (ad q 1)=some (i6 x.blocks):=bj.cell 1;by_cases bg:(j:Int)<x.blocks
    ·have b4:=eo bg;obtain⟨s,f1,f2,f3⟩:=RB j bg;obtain⟨F3,F1,F2,IS,SS⟩:=eI f3 f1 f2 (show(prog.info? 60).map (·.size)=some (aC s.val).size from by rw[dx,bX,s.2]) (show(aC aK).size=(aC s.val).size from by rw[bX,bX,s.2];rfl);clear f1 f2 f3;go_wp2_with fail;refine(wF _ p _ H G aj I _ (by have:=BL.2.2;omega) _).mono ?_;rintro e w5⟨hr,a5,t5⟩;have aO:e=rt #[.agg (aC s.val),i6 0]:=by
      rcases hr with⟨m,h1,h2⟩|⟨k',s',h1,h2,h3⟩
      ·rw[F1.out]at h1;cases h1
      ·rw[F1.out]at h1;cases h1;rw[show((j:Nat):Int).toNat=j from Abq j,F2.out]at h2;cases h2;exact h3
     subst aO;obtain⟨U6,S6⟩:=aw (ai w5 (.cells (aC s.val) 60)) (aH.new w5 60 (aC s.val));obtain⟨w6,ab⟩:=bK (w5.alloc (.cells (aC s.val) 60));obtain⟨q6,aa⟩:=bK (w5.heap.size);obtain⟨aB,av⟩:=aw ab aa;rw[<-ab,<-aa]at S6;rw[<-ab]at U6;obtain⟨M6,B6⟩:=aw ((mj.XD aj (t5.mono (λ_ h=>.inl h)) (λh=>(ao _ h).2 rfl)).up U6) ((bj.az t5 (λh=>by have:=al q (.inl h);have:=QL.out;omega)).up U6);have ag:=an (A7 w6 mb kb (n+65*k+j) M M6 (by have:=HN.out;omega) IM ⟨3,x.name,[],(j:Int),[]⟩ ⟨by show(3:Int)≠5;omega,by show(3:Int)≠6;omega⟩ (nl) (nl) ⟨by have:=BL.2.2;show κ x.name<=_;omega,A0,aD.nil _ _⟩ (λhne=>absurd rfl hne) (aT _));replace c0:w6.cell? (ad q 0)=some (.string (strOf x.name)):=B6.cell 0;have DV:=an (show lT M ⟨3,x.name,[],(j:Int),[]⟩=(s,(0,M))from by show((j5 M x.name (j:Int)).1,((j5 M x.name (j:Int)).2,M))=_;rw[F3.out])
     rw[DV.out]at ag;clear hr ab aa c1;go_wp2_with(first
      | refine bD 60 hI ?_
      | ((with_reducible refine cu _ _ _ ?_);refine fC _ rfl _ (.tmp 9) (.tmp 38) rfl _ _ (aC aK) rfl rfl rfl IS SS (dj _) ?_)
      | ((with_reducible refine vu 9 _ ?_);refine kS ?_))
     rw[<-av.out,<-aB.out];refine an ?_;go_wp2_with(first
      | ((with_reducible refine dI _ _ ?_);refine DZ rfl _ 0 1 3 (.const (i6 3)) (.tmp 43) (.tmp 44) rfl _ _ _ _ (Sk _ _) rfl rfl rfl ?_))
     refine ag.mono ?_;rintro e w7⟨rfl,m7,t7⟩;have U8:=an (ai w7 (.cells (aC s.val) 60));have EQ:∀W:af,(Ack 10000 60 (.agg (aC s.val)) (.agg (aC s.val))).run Aag W=.ok true W:=λW=>by rw[K8 s.val s.val s.2 s.2 W,gD rfl]
     clear c0;go_wp2_with(first
      | refine bD 60 hI ?_
      | ((with_reducible refine cu _ _ _ ?_);refine fC _ rfl _ (.tmp 11) (.tmp 47) rfl _ _ (aC aK) rfl rfl rfl IS SS (dj _) ?_)
      | refine cU 60 9 ((S6.az t7 (λh=>bh.H6 M6 S6 ax h)).up U8) (hi:=IS) ?_
      | refine cU 60 11 (aH.new _ _ _) (hi:=IS) ?_)
     go_roundw
     case rel=>exact⟨j+1,ae,aq,((a5.up U6).model M6 t7).up U8,m7.up U8,(((tj.trans t5 (λ_ h _=>.inl h)).iK U6).trans t7 (λ_ h _=>.inr h)).iK U8,(B6.az t7 (λh=>by have:=al q (.inr h);have:=QL.out;omega)).up U8⟩
     case measure=>simp only[Aat];omega
    ·have b4:=cz bg;go_wp2;go_roundw
     case rel=>exact⟨k+1,ae,aq,aj,mj.Dp ae,tj⟩
     case measure=>simp only[Aat];omega
  ·obtain rfl:k=κ L:=by omega
   have b3:((κ L:Int)<(κ L:Int))=False:=aq
   go_wp2;go_ret;exact⟨rfl,ar,mr.Dp ae,(Touch.bW (F:=λk=>PF H k\/k=mb\/k=kb) U3).trans tr (λ_ h _=>h)⟩
end
def aai(N:Int)(w:af)(e:Ab1)(w':af):Prop:=((N<64\/400<N)/\e=.returned (.tuple #[.pointer none,.pointer none])/\Up w w')\/(64<=N/\N<=400/\∃p gb H G b,e=.returned (.tuple #[.pointer (some ⟨p,0,none⟩),.pointer (some ⟨H.h.d,0,none⟩)])/\bT w' p gb H G/\Up w w'/\w.heap.size<=p/\(∀k,PF H k->w.heap.size<=k)/\gl N.toNat G b)
theorem HZ(w:af)(N:Int):Aae Aag 7 #[i6 N] w (aai N w):=by
 by_cases h1:N<64
 ·have b1:=eo h1;go_in;go_wp2;go_ret2;exact .inl ⟨.inl h1,rfl,Up.refl w⟩
 by_cases h2:400<N
 ·obtain⟨b1,b2⟩:=aA (cz h1) (eo h2);go_in;go_wp2;go_ret2;exact .inl ⟨.inr h2,rfl,Up.refl w⟩
 obtain⟨n,rfl⟩:∃n:Nat,N=(n:Int):=⟨N.toNat,ae⟩;obtain⟨b1,b2⟩:=aA (cz h1) (cz h2);have hn:64<=n/\n<=400:=ae
 obtain⟨HN,DN⟩:=aw hn (WH w n ae);clear h1 h2 hn;go_in;go_wp2_with fail;refine DN.mono ?_;rintro e w1⟨h,rfl,da,u1,fo⟩;obtain⟨b,K,hb,_⟩:=LY (G:=sT (Aac n ep) 0 true) (H7 aQ) (xn n);obtain⟨HB,FO⟩:=aw hb fo;clear fo hb b1 b2;go_wp2_with fail;refine(Qs _ h _ 0 _ da b K).mono ?_;rintro e w2⟨p,gb,H,G2,vp,rfl,hp,hA,hH,aS,hc,T,hv⟩;obtain⟨HH,ao,HV,HP⟩:=bR hH aS hv hp;clear hH aS hv hp;go_wp2;go_ret2;have hd:H.h.d=h.d:=by rw[HH.out]
 rw[<-hd];have us:=u1.size;refine .inr ⟨dL,dL,p,gb,H,G2,b,rfl,hA,Touch.up T u1 (λk hk=>FO k hk),bN us HP,?_,KC cm cm cm HB⟩;rintro k(rfl|rfl|hk)
 ·simp only[Hid]at *;omega
 ·simp only[Hid]at *;omega
 ·rw[HH.out]at hk;rcases tM hk with hk|hk
  ·exact FO k hk
  ·rcases HV.out k hk with h3|h3
   ·exact FO k (.inr (.inr (.inr h3)))
   ·omega
theorem Rw:∀W:af,(Ab9 65).run Aag W=.ok (.agg (lM (nl) (nl) false 0 0)) W:=gE
theorem OJ(w:af):Aae Aag 6 #[] w λe w'=>e=.returned (.bool true)/\Up w w':=by
 go_in;go_wp2_with fail;refine(HZ w _).mono ?_;rintro e w1 h;rcases h with⟨h,_⟩|⟨_,_,p,gb,H,G,b,rfl,A1,u1,up,uf,N⟩
 ·omega
 have N:=N;obtain⟨UP,UF,CR⟩:=aW up uf (show Aae Aag 17 #[pz p,.string ⟨#[118]⟩,i6 4] w1 _ from xt w1 p gb H G A1 N.inv ⟨yT,by rw[N.st];omega,by rw[N.m];omega,by rw[N.tx];omega⟩ zj ax 4);clear up uf;go_wp2_with fail;refine CR.mono ?_;rintro e w2⟨r,G1,bj,aa,H1,rfl,hR,bh,hA,T1,ba⟩;obtain⟨hr0,hG⟩:=Z5 N hR;subst hr0 hG;obtain⟨A2,U2,aJ⟩:=aW ((hA.resolve_right (λh=>h.1 rfl)).2) (show Up w w2 from Touch.up T1 u1 (λk hk=>hk.elim (λh=>UF k (.inr (.inr h))) (λh=>by rw[h];exact UP))) (show ∀k,PF H1 k->w.heap.size<=k from λk hk=>(ba.2 k hk).elim (UF k) (bN u1.size));have WR:=an (show Aae Aag 18 #[pz p,.string ⟨#[118]⟩,i6 1,cv w2.heap.size 1 1] (w2.alloc (.cells #[.int .u8 97] 5 (1,2))) _ from
  xw (w2.alloc (.cells #[.int .u8 97] 5 (1,2))) p aa H1 (jW G) (A2.up (ai w2 _)) (YO N) (aa5 N) zj ax 1 (some ⟨w2.heap.size,0,none⟩) 1 [97] (aD.lit w2 #[.int .u8 97] 5 (1,2) [97] 1 rfl dE rfl)
   (λk hk=>by
    simp[Aan]at hk
    subst hk
    exact⟨λhf=>by have:=A2.ga.pa.lt _ (.inr (.inr hf));omega,by rw[Aa3];omega⟩))
 have kc:=Lib.run_convert_bytes_const (P:=Aag) w2 30 5 #[.int .u8 97] 1 1 Aa0 underlying5;clear hA UF;go_wp2_with fail;refine WR.mono ?_;rintro e w3⟨r,G2,ao,bf,H2,rfl,hR,aF,hA,T2,bb⟩;obtain⟨hr0,TT,ft⟩:=Ya N hR;subst hr0;have UA:=an (show Up w (w2.alloc (.cells #[.int .u8 97] 5 (1,2)))from U2.trans (ai _ _));obtain⟨U3,aP,FT⟩:=aW (show Up w w3 from Touch.up T2 UA (λk hk=>hk.elim (λh=>aJ k (.inr (.inr h))) (λh=>by rw[h];exact UP))) (show ∀k,PF H2 k->w.heap.size<=k from λk hk=>(bb.2 k hk).elim (aJ k) (bN UA.size)) ft;clear kc aJ;go_wp2_with fail;refine(wG _ p _ _ _ ((hA.resolve_right (λh=>h.1 rfl)).2) (TT.inv ft) (VT N TT)).mono ?_;rintro e w4⟨b3,G3,bn,H3,bw,rfl,hb,hK,hC,aX,A4,T3,bc⟩;obtain⟨AL,U4,au,aE⟩:=bR (R4 N TT FT hb hK hC) (show Up w w4 from Touch.up T3 U3 (λk hk=>hk.elim (λh=>aP k (.inr (.inr h))) (λh=>by rw[h];exact UP))) (show ∀k,PF H3 k->w.heap.size<=k from λk hk=>(bc.2 k hk).elim (aP k) (bN U3.size)) (show H3.h.d=H.h.d from by rw[aX];exact(by rw[aF];exact(by rw[bh])));have CS:=an (Pc _ _ _ 0 (DA.fl0 (by have:=A4.ga.pa.dev;rw[AL.out.m]at this;exact this)));rw[aE.out]at CS;clear hb aX aP FT;go_wp2_with fail;refine CS.mono ?_;rintro e w5⟨rfl,bl,d5,t5,o5⟩;obtain⟨h5,aN⟩:∃y:iE,y={H3.h with vp:=bl}:=⟨_,rfl⟩;have aT:=an (show h5.d=H.h.d from by rw[aN];exact aE);rw[<-aN]at d5;have U5:=an (show Up w w5 from Touch.up t5 U4 (λk hk=>au k (.inr (.inr hk))));have aQ:=an (show ∀k,cI h5 k->w.heap.size<=k from λk hk=>by
  rw[aN]at hk;rcases tM hk with h|h
  ·exact au k (.inr (.inr h))
  ·rcases o5 k h with h2|h2
   ·exact au k (.inr (.inr (.inr (.inr (.inr h2)))))
   ·exact bN U4.size h2)
 have OP:=an (Qu _ _ _ 0 _ d5 AL.inv AL.ring _ AL.dsk AL.bd);rw[aT.out]at OP;clear o5 aN au aE;go_wp2_with fail;refine OP.mono ?_;rintro e w6⟨p2,bg,H6,rfl,a1,A6,T6,l1,l2,l3,l4⟩;obtain⟨U6,II⟩:=aw (show Up w w6 from Touch.up T6 U5 (λk hk=>aQ k hk)) (WW AL.inv AL.dsk 0 true);have aU:=an (show ∀k,PF H6 k->w.heap.size<=k from λk hk=>by
  have:=U5.size;rcases hk with rfl|rfl|hk
  ·omega
  ·omega
  ·rw[a1]at hk;exact aQ k hk)
 clear l1 l2 l3 l4;go_wp2_with fail;refine(wE _ _ _ _ _ A6 II).mono ?_;rintro e w7⟨v,rfl,oi,u7⟩;have L1:κ ((Ao G3 0 true).l.map (jB (Ao G3 0 true).l))=1:=by obtain⟨x,hx,_⟩:=AL.one;show(G3.l.map (jB G3.l)).length=1;rw[hx];rfl
 obtain⟨ia,ic,rfl⟩:=(ak.row oi iw).slice;rw[L1];have RD:=an (show Aae Aag 21 #[pz p2,.string ⟨#[118]⟩,i6 1] w7 _ from wF w7 p2 bg H6 (Ao G3 0 true) (A6.up u7) II zj ax 1);clear L1;go_wp2_with fail;refine RD.mono ?_;rintro e w8⟨he,A8,t8⟩;have he:e=.returned (.tuple #[.agg (aC (jM [97]).val),i6 0]):=by
  obtain⟨x,hx,hs,hr⟩:=AL.one;have hf:e4 (Ao G3 0 true).l zj 1=.ok 0:=by show e4 G3.l zj 1=.ok 0;rw[hx];exact Z3 hs
  have ar:vG (Ao G3 0 true).P.C (recAt (Ao G3 0 true).l 0) (1:Int).toNat=some (jM [97]):=by show vG G3.P.C (recAt G3.l 0) 1=_;rw[hx];exact hr
  rcases he with⟨n,h,_⟩|⟨k,s,h,h2,h3⟩
  ·rw[hf]at h;cases h
  ·rw[hf]at h;cases h;rw[ar]at h2;cases h2;exact h3
 subst he;obtain⟨cc,al⟩:=bK (aC (jM [97]).val);have CZ:=an (show cc.size=128/\cc[0]?=some (.int .u8 97)/\cc.all (·.oneCell')=true from by rw[al];exact⟨by rw[bX];exact(jM [97]).property,av,dj _⟩)
 rw[<-al];obtain⟨D8,U8⟩:=aw (show DA w8 h5 G3.P.C 0 true from by have:=A8.ga.pa.dev;rw[a1]at this;exact this) (show Up w w8 from Touch.up t8 (U6.trans u7) (λk hk=>aU k hk));obtain⟨u9,b9⟩:=aA (ai w8 (.cells cc 60)) (aH.new w8 60 cc);obtain⟨w9,aY⟩:=bK (w8.alloc (.cells cc 60));obtain⟨q5,aj⟩:=bK (w8.heap.size);obtain⟨a8,a6⟩:=aw aY aj;rw[<-aY]at u9 b9;rw[<-aj]at b9;obtain⟨F8,WK⟩:=aw (show ∀k,cI h5 k->k<q5 from by rw[aj];exact D8.lt) (CO _ _ _ 0 _ (D8.up u9) AL.inv AL.ring _ AL.dsk);rw[aT.out]at WK;clear al aY aj aU;go_wp2_with(first
  | refine arm ?_
  | ((with_reducible refine cu _ _ _ ?_);refine fC _ rfl _ (.tmp 5) (.tmp 54) rfl _ _ (aC aK) rfl rfl rfl (by rw[CZ.out.1];kernel_rfl) (by rw[CZ.out.1];rfl) CZ.2.2 ?_))
 rw[<-a6.out,<-a8.out];refine WK.mono ?_;rintro e aV⟨vr,vt,ks,rfl,se,r1,r2,d1,t1⟩;obtain⟨ra,rc,rfl⟩:=aI.slice r1;obtain⟨ta,tc,rfl⟩:=aI.slice r2;rw[show((κ (ks.filter (RC (hN G3 (κ G3.l)))):Nat):Int)=3 from by rw[AL.out.walk se];rfl];have LN:=an (show(aB (gf G3.P.s) 4096).length<=100000 from by have:=gG (gf G3.P.s) 4096;omega);obtain⟨sl,ag⟩:=bK (aB (gf G3.P.s) 4096);rw[<-ag]at r1 r2 LN ⊢;obtain⟨rl,aM⟩:=bK (κ sl);obtain⟨n,hn⟩:∃y:Int,y=(κ G3.l:Int):=⟨_,rfl⟩;rw[<-aM]at r1 r2 ⊢;rw[<-hn];obtain⟨bq,U10⟩:=aw (b9.az t1 (λhf=>absurd (F8 _ hf) ae)) (show Up w aV from Touch.up t1 (U8.trans u9) (λk hk=>aQ k hk));obtain⟨aq,aR⟩:=aA (ai aV (.cells (lM (.slice ra rl rc) (.slice ta rl tc) false n 3) 65)) (aH.new aV 65 (lM (.slice ra rl rc) (.slice ta rl tc) false n 3));obtain⟨w11,ab⟩:=bK (aV.alloc (.cells (lM (.slice ra rl rc) (.slice ta rl tc) false n 3) 65));obtain⟨q7,aS⟩:=bK (aV.heap.size);obtain⟨aG,a7⟩:=aw ab aS;rw[<-ab]at aq aR;rw[<-aS]at aR;obtain⟨B5,CL⟩:=aw (bq.up aq) (zx w11 (.slice ra rl rc) (.slice ta rl tc) sl (aI.up r1 aq) (aI.up r2 aq) LN n 3);have be:w11.cell? (ad q5 0)=some (.int .u8 97):=(B5.cell 0).trans CZ.2.1;clear ab aS ag aM hn;go_wp2_with(first
  | refine arm ?_
  | ((with_reducible refine vu 5 _ ?_);refine kS ?_)
  | ((with_reducible refine vu _ _ ?_);refine kS ?_))
 rw[<-a7.out,<-aG.out];refine an ?_;go_wp2_with(refine arm ?_);refine CL.mono ?_;rintro e bT⟨rfl,aO⟩;have bm:bT.cell? (ad q7 4)=some (i6 3):=(aR.up aO).cell 4;clear be;go_wp2;go_ret;exact⟨rfl,((U10.trans aq).trans aO)⟩
theorem O0(w0:af)(h:iE)(G:ch)(m:Nat)(ff:Bool)(D:DA w0 h G.P.C m ff)(I:bm G)(R:Ring G)(b:List aj)(K:Wg G b):Aae Aag 14 #[pz h.d] w0 λe w'=>e=.returned (.bool true)/\DA w' h G.P.C m ff/\Touch (cI h) w0 w':=by have WK:=an (CO w0 h G m ff D I R b K);clear D I R K;go_in;go_wp2_with fail;refine WK.mono ?_;rintro e w1⟨vr,vt,ks,rfl,se,r1,r2,d1,t1⟩;obtain⟨ra,rc,rfl⟩:=aI.slice r1;obtain⟨ta,tc,rfl⟩:=aI.slice r2;have LN:=an (show(aB (gf G.P.s) 4096).length<=100000 from by have:=gG (gf G.P.s) 4096;omega);obtain⟨sl,ag⟩:=bK (aB (gf G.P.s) 4096);rw[<-ag]at r1 r2 LN ⊢;obtain⟨rl,aM⟩:=bK (κ sl);obtain⟨n,hn⟩:∃y:Int,y=(κ G.l:Int):=⟨_,rfl⟩;obtain⟨c,hc⟩:∃y:Int,y=(κ (ks.filter (RC (hN G (κ G.l)))):Int):=⟨_,rfl⟩;rw[<-aM]at r1 r2 ⊢;rw[<-hn,<-hc];obtain⟨D1,T1,R1,R2⟩:=bR d1 t1 r1 r2;clear ag aM hn hc se r1 r2 d1 t1 WK;have s:=Fr.start w1;go_wp2_with(refine fw s ?_;intro _ w s);refine(zx w (.slice ra rl rc) (.slice ta rl tc) sl (aI.up R1 s.pure) (aI.up R2 s.pure) LN n c).mono ?_;refine eE ?_;intro w u s;go_wp2_with(refine fw s ?_;intro _ w s);refine bB ?_;exact⟨rfl,D1.out.up s.pure,T1.out.iK s.pure⟩
def bT.clean{w w':af}{p gb:Nat}{H:aP}(A:bT w p gb H G)(D:DA w' H.h G.P.C G.P.m G.P.fl)(T:Touch (cI H.h) w w'):bT w' p gb H G:=A.go ⟨A.ga.pa.e5.az T A.ga.pa.sX,A.ga.pa.map.az T A.ga.pa.sQ,D⟩ (T.mono λ_ h=>.inr (.inr h))
structure l0(G G3:ch)(c:Nat):Prop where
 u:G3.u=G.u
 ms:G3.ms=G.ms
 mR:bp G.P.s<=bp G3.P.s+c
 Qi:∀j,G.P.s j≠1->G3.P.C[j]?=G.P.C[j]?
 len:κ G3.P.C=κ G.P.C
theorem l0.refl(G:ch)(c:Nat):l0 G G c:=⟨rfl,rfl,ae,λ_ _=>rfl,rfl⟩
theorem l0.dev{G G2:ch}(c:Nat)(h:κ G2.P.C=κ G.P.C/\∀j,G.P.s j≠1->G2.P.C[j]?=G.P.C[j]?):l0 G (JI G G2) c:=⟨rfl,rfl,by show bp G.P.s<=bp G.P.s+c;omega,h.2,h.1⟩
theorem l0.aax(c:Nat)(L:List au)(nx:Nat)(l:List al):l0 G {G with P:={G.P with s:=bJ G.P.s G.P.ba L},next:=nx,l:=l} c:=⟨rfl,rfl,by have:=mS (s:=G.P.s) (ba:=G.P.ba) L;show bp G.P.s<=bp (bJ G.P.s G.P.ba L)+c;omega,λ_ _=>rfl,rfl⟩
def Lp(o:mP):Nat:=if o.kind=1\/o.kind=2 then 3 else 0
section
variable {G G3:ch} {o:mP} {s:cN} {r:Int}
theorem na{R:Int->ch->Prop}{c:Nat}(h:dc G R s r G3)(h1:∀G2,R r G2->r=0->l0 G G2 c)(h2:∀G2,R r G2->r≠0->κ G2.P.C=κ G.P.C/\∀j,G.P.s j≠1->G2.P.C[j]?=G.P.C[j]?):l0 G G3 c:=by
 obtain⟨_,G2,hR,⟨hr,rfl⟩|⟨hr,rfl⟩⟩:=h
 ·exact h1 _ hR hr
 ·exact l0.dev c (h2 _ hR hr)
theorem qY{X:Except Nat (Nat × List al)}{f:ch->ch}{b:Bool}{c:Nat}(hf:∀g,(f g).u=g.u/\(f g).ms=g.ms/\(f g).P.s=g.P.s/\(f g).P.C=g.P.C)(h:dc G (jv G X f b) s r G3):l0 G G3 c:=by
 refine na h (λG2 hR hr=>?_) (λG2 hR hr=>?_)
 ·rcases hR with⟨n,_,_,_,rfl⟩|⟨nx,l',_,rfl,_⟩
  ·exact l0.refl _ _
  ·obtain⟨e1,e2,e4,e5⟩:=hf {G with next:=nx,l:=l'};exact⟨e1,e2,by rw[e4];show bp G.P.s<=bp G.P.s+c;omega,λj _=>by rw[e5],by rw[e5]⟩
 ·rcases hR with⟨n,_,_,_,rfl⟩|⟨nx,l',_,rfl,_⟩
  ·exact⟨rfl,λ_ _=>rfl⟩
  ·obtain⟨e1,e2,e4,e5⟩:=hf {G with next:=nx,l:=l'};exact⟨by rw[e5],λj _=>by rw[e5]⟩
theorem Dg{full:List aj}{N:Int}{b:Bool}{x:cN}(h:dc G (j3 G full N b x) s r G3):l0 G G3 3:=by
 refine na h (λG2 hR hr=>?_) (λG2 hR hr=>?_)
 ·rcases hR with⟨n,_,hn,e,rfl⟩|⟨k,_,⟨_,e,rfl⟩|⟨_,e,d⟩|⟨_,_,T,f⟩⟩
  ·exact l0.refl _ _
  ·exact l0.refl _ _
  ·omega
  ·exact⟨T.u,T.us.ms,T.us.mR,T.Qi,T.len⟩
 ·rcases hR with⟨n,_,hn,e,rfl⟩|⟨k,_,⟨_,e,rfl⟩|⟨_,e,d⟩|⟨_,e,_⟩⟩
  ·exact⟨rfl,λ_ _=>rfl⟩
  ·exact⟨rfl,λ_ _=>rfl⟩
  ·exact⟨d.1,d.2.1⟩
  ·exact absurd e hr
theorem AF{X:Except Nat (Nat × List al × al)}{c:Nat}(h:dc G (nB G X) s r G3):l0 G G3 c:=by exact Np
theorem PM{X:Except Nat (Nat × List al × List au)}{c:Nat}(h:dc G (RN G X) s r G3):l0 G G3 c:=by exact Np
theorem Ey{full:List aj}{c:Nat}(h:dc G (dY G full) s r G3):l0 G G3 c:=by
 unfold dY at h;cases hs:cO full with
 | none=>
  rw[hs]at h;refine na h (λG2 hR hr=>?_) (λG2 hR hr=>?_)
  ·obtain⟨_,rfl⟩:=hR;exact l0.refl _ _
  ·obtain⟨_,rfl⟩:=hR;exact⟨rfl,λ_ _=>rfl⟩
 | some p=>
  obtain⟨v,sn⟩:=p;rw[hs]at h;by_cases h0:sn=[]
  ·simp only[h0,if_true]at h;exact AF h
  ·simp only[h0,if_false]at h;exact PM h
theorem Sx(hk:o.kind≠9)(h:x9 G o s r G3):l0 G G3 (Lp o):=by
 unfold x9 at h;by_cases h0:o.kind=0
 ·rw[bo h0]at h;exact qY (f:=id) (λg=>⟨rfl,rfl,rfl,rfl⟩) h
 rw[aM h0]at h;by_cases h1:o.kind=1
 ·rw[bo h1]at h;unfold Lp;rw[bo (.inl h1)];exact Dg h
 rw[aM h1]at h;by_cases h2:o.kind=2
 ·rw[bo h2]at h;unfold Lp;rw[bo (.inr h2)];exact Dg h
 rw[aM h2]at h;by_cases h3:o.kind=3
 ·rw[bo h3]at h;obtain⟨rfl,_⟩:=h;exact l0.refl _ _
 rw[aM h3]at h;by_cases h4:o.kind=4
 ·rw[bo h4]at h;exact qY (f:=λg:ch=>{g with P:={g.P with st:=g.P.st+1}}) (λg=>⟨rfl,rfl,rfl,rfl⟩) h
 rw[aM h4]at h;by_cases h5:o.kind=5
 ·rw[bo h5]at h;exact qY (f:=id) (λg=>⟨rfl,rfl,rfl,rfl⟩) h
 rw[aM h5]at h;by_cases h6:o.kind=6
 ·rw[bo h6]at h;exact qY (f:=id) (λg=>⟨rfl,rfl,rfl,rfl⟩) h
 rw[aM h6]at h;by_cases h7:o.kind=7
 ·rw[bo h7]at h;exact AF h
 rw[aM h7]at h;by_cases h8:o.kind=8
 ·rw[bo h8]at h;exact Ey h
 rw[aM h8,aM hk]at h;obtain⟨_,_,rfl⟩:=h;exact l0.refl _ _
theorem Sz(I:bm G)(B:pf G)(R:Ring G)(hk:o.kind=9)(h:x9 G o s r G3):∃b,κ b=cA G.l/\mN G b G3/\Wg G3 b/\Ring G3:=by unfold x9 at h;rw[hk]at h;simp only[show ¬((9:Int)=0)from ae,show ¬((9:Int)=1)from ae,show ¬((9:Int)=2)from ae,show ¬((9:Int)=3)from ae,show ¬((9:Int)=4)from ae,show ¬((9:Int)=5)from ae,show ¬((9:Int)=6)from ae,show ¬((9:Int)=7)from ae,show ¬((9:Int)=8)from ae,if_false,if_true]at h;obtain⟨_,_,b,hb,K,c⟩:=h;obtain⟨d,r2⟩:=yd I B R c K;exact⟨b,hb,c,d,r2⟩
theorem Sy(I:bm G)(B:pf G)(R:Ring G)(h:x9 G o s r G3):Ring G3:=by
 by_cases hk:o.kind=9
 ·obtain⟨_,_,_,_,h⟩:=Sz I B R hk h;exact h
 ·have K:=Sx hk h;exact R.congr I K.u K.Qi
end
inductive YY (G:ch):List mP->ch->Prop
 | nil:YY G [] G
 | snoc {l:List mP} {o:mP} {G1 G2:ch} {s:cN} {r:Int}:YY G l G1->bm G1->pf G1->x9 G1 o s r G2->YY G (l++[o]) G2
def VS(nm:List (List aj))(l:List al):Prop:=(∃v∈l,v.aU=false)/\∀x∈l,(x.aU=false->x.name=[118])/\(x.aU=true->x.name∈nm)
def Qa:List (List aj):=[[99],[97],[100],[98]]
theorem VS.of{nm ae:List (List aj)}{l l':List al}(h:VS nm l)(h1:∀v∈l,v.aU=false->∃v'∈l',v'.aU=false)(h2:∀x∈l',((∃y∈l,y.aU=x.aU/\y.name=x.name)/\(x.aU=true->x.name∈nm->x.name∈ae))\/(x.aU=true/\x.name∈ae)):VS ae l':=by
 obtain⟨⟨v,hv,h0⟩,h3⟩:=h;refine⟨h1 v hv h0,λx hx=>?_⟩;rcases h2 x hx with⟨⟨y,hy,e1,e2⟩,h4⟩|⟨e1,e2⟩
 ·obtain⟨a,b⟩:=h3 y hy;exact⟨λh=>by rw[<-e2];exact a (by rw[e1];exact h),λh=>h4 h (by rw[<-e2];exact b (by rw[e1];exact h))⟩
 ·exact⟨λh=>(by rw[h]at e1;cases e1),λ_=>e2⟩
theorem VS.strip{l l':List al}(h:VS nm l)(e:l'.map b9=l.map b9):VS nm l':=by
 have key:∀{a b:List al},a.map b9=b.map b9->∀x∈a,∃y∈b,y.aU=x.aU/\y.name=x.name:=λ{a b} e x hx=>by
  have:b9 x∈b.map b9:=by rw[<-e];exact List.mem_map.mpr ⟨x,hx,rfl⟩
  obtain⟨y,hy,e2⟩:=List.mem_map.mp this;exact⟨y,hy,(cb al.aU e2:(b9 y).aU=(b9 x).aU),(cb al.name e2:(b9 y).name=(b9 x).name)⟩
 refine h.of (λv hv h0=>?_) (λx hx=>.inl ⟨key e x hx,λ_ h=>h⟩);obtain⟨y,hy,e1,_⟩:=key e.symm v hv;exact⟨y,hy,by rw[e1];exact h0⟩
section
variable {G G3:ch} {o:mP} {s:cN} {r:Int} {nm:List (List aj)}
theorem VS.called{R:Int->ch->Prop}(V:VS nm G.l)(h:dc G R s r G3)(h1:∀G2,R r G2->VS nm G2.l):VS nm G3.l:=by
 obtain⟨_,G2,hR,⟨_,rfl⟩|⟨_,rfl⟩⟩:=h
 ·exact h1 _ hR
 ·exact V
theorem VS.GL(V:VS nm G.l){full:List aj}{N:Int}{b:Bool}{x:cN}(h:dc G (j3 G full N b x) s r G3):VS nm G3.l:=by
 obtain⟨_,G2,R,⟨h0,rfl⟩|⟨_,rfl⟩⟩:=h
 ·rcases R with⟨n,_,hn,e,rfl⟩|⟨k,_,⟨_,e,rfl⟩|⟨_,e,d⟩|⟨_,_,T,f⟩⟩
  ·exact V
  ·exact V
  ·omega
  ·exact V.strip T.strip
 ·exact V
theorem VS.set{l:List al}{i:Nat}{x:al}(V:VS nm l)(S:ph l)(hi:i<κ l)(h1:x.aU=(recAt l i).aU)(h2:x.name=(recAt l i).name):VS nm (l.set i x):=by
 have m:=aJ hi;refine V.of (λv hv h0=>?_) (λy hy=>.inl ⟨?_,λ_ h=>h⟩)
 ·by_cases e:v=recAt l i
  ·exact⟨x,(mem_set S hi).mpr (.inl rfl),by rw[h1,<-e];exact h0⟩
  ·exact⟨v,(mem_set S hi).mpr (.inr ⟨hv,e⟩),h0⟩
 ·rcases(mem_set S hi).mp hy with rfl|⟨h,_⟩
  ·exact⟨_,m,h1.symm,h2.symm⟩
  ·exact⟨y,h,rfl,rfl⟩
theorem VS.do(I:bm G)(V:VS Qa G.l)(hk:o.kind=1\/o.kind=2\/o.kind=7\/o.kind=9\/(o.kind=4/\∃c∈Qa,dX o.name=some ([118],c)))(h:x9 G o s r G3):VS Qa G3.l:=by
 unfold x9 at h;rcases hk with k|k|k|k|⟨k,c,hc,hs⟩<;>simp only[k]at h
 ·exact V.GL h
 ·exact V.GL h
 ·refine V.called h (λG2 R=>?_);rcases R with⟨n,_,_,_,rfl⟩|⟨nx,l',x,hX,_,rfl⟩
  ·exact V
  ·obtain⟨i,j,hi,hj,rfl,rfl,rfl⟩:=tt hX;exact V.set I.hE.gk (I.hE.VW hi).1 rfl rfl
 ·obtain⟨_,_,b,_,_,K⟩:=h;obtain⟨ats,K⟩:=vO I K;rw[K.l];exact V
 ·refine V.called h (λG2 R=>?_);rcases R with⟨n,_,_,_,rfl⟩|⟨nx,l',hX,rfl,_⟩
  ·exact V
  ·obtain⟨fD,sn,i,ag,hi,_,hr,_,rfl,rfl⟩:=qt hX;rw[hs]at ag;cases ag;have aI:=(I.hE.Ah hs hi hr).1.1;show VS Qa ((G.l++[iA G.next (recAt G.l i) c G.P.st]).set i (lx G.next (recAt G.l i)));obtain⟨_,mm⟩:=ni I.hE.gk aI I.hE.PC (s:=iA G.next (recAt G.l i) c G.P.st) (v':=lx G.next (recAt G.l i)) rfl rfl;have m:=aJ aI;refine V.of (λv hv h0=>?_) (λx hx=>?_)
   ·by_cases e:v=recAt G.l i
    ·exact⟨_,(mm _).mpr (.inl rfl),by rw[e]at h0;exact h0⟩
    ·exact⟨v,(mm v).mpr (.inr (.inr ⟨hv,e⟩)),h0⟩
   ·rcases(mm x).mp hx with rfl|rfl|⟨h,_⟩
    ·exact .inl ⟨⟨_,m,rfl,rfl⟩,λ_ h=>h⟩
    ·exact .inr ⟨rfl,hc⟩
    ·exact .inl ⟨⟨x,h,rfl,rfl⟩,λ_ h=>h⟩
theorem LB(I:bm G)(V:VS nm G.l):∃v∈G.l,v.aU=false/\v.name=[118]/\(∀x∈G.l,x.aU=false->x=v)/\∀x∈G.l,x.owner=v.id:=by
 have F:=I.hE;obtain⟨⟨v,hv,h0⟩,h3⟩:=V;have hn:=(h3 v hv).1 h0;have one:∀x∈G.l,x.aU=false->x=v:=λx hx hs=>F.nm x hx v hv (by unfold bY;rw[aM (by simp[hs]),aM uA,(h3 x hx).1 hs,hn]);refine⟨v,hv,h0,hn,one,λx hx=>?_⟩;cases hs:x.aU with
 | false=>rw[one x hx hs];exact F.own hv h0
 | true=>obtain⟨u,hu,e,aa⟩:=F.ov x hx hs;rw[<-e,one u hu aa]
theorem V1(I:bm G)(V:VS nm G.l){full c:List aj}(hs:cO full=some ([118],c))(h0:c≠[]){x:al}(hx:x∈G.l)(aa:x.aU=true)(aF:x.name=c):∃i,a1 G.l full=some i/\recAt G.l i=x:=by
 obtain⟨v,hv,v0,vn,_,ow⟩:=LB I V;obtain⟨i,hi,p1,p2⟩:=I.hE.placeOf hv;obtain⟨j,hj,q1,q2⟩:=I.hE.placeOf hx;have e1:bY v=⟨0,[118]⟩:=by unfold bY;rw[aM (by simp[v0]),vn]
 have e2:bY x=⟨(recAt G.l i).id,c⟩:=by unfold bY;rw[bo aa,ow x hx,aF,p2]
 have nx:=Ba hs (by rw[<-e1];exact p1) h0 (by rw[<-e2];exact q1);obtain⟨k,hk,r1,r2⟩:=ca I.hE.gk hx;refine⟨k,?_,r2⟩;unfold a1;rw[nx];show aV G.l (recAt G.l j).id=_;rw[q2,r1]
theorem Yc(I:bm G)(V:VS nm G.l){full c:List aj}(hs:cO full=some ([118],c))(h0:c≠[]){i:Nat}(h:a1 G.l full=some i):i<κ G.l/\(recAt G.l i).aU=true/\(recAt G.l i).name=c:=by
 have hsn:dX full=some ([118],c):=by unfold dX;rw[hs];exact aM h0
 obtain⟨hi,h1⟩:=I.hE.Le hsn h;have nx:=I.hE.named h;unfold dF at nx;rw[hs]at nx;simp only[h0,if_false]at nx;split at nx
 ·cases nx
 ·split at nx
  ·cases nx
  ·rename_i j hj;cases nx;have:=(eP hj).2;unfold bY at this;rw[bo h1]at this;exact⟨hi,h1,cb jt.name this⟩
theorem zn(I:bm G)(V:VS nm G.l){full c:List aj}(hs:cO full=some ([118],c))(h0:c≠[]){ae:List (List aj)}(hn:∀x∈nm,x≠c->x∈ae)(h:dc G (dY G full) s r G3):VS ae G3.l:=by
 have F:=I.hE;have hsn:dX full=some ([118],c):=by unfold dX;rw[hs];exact aM h0
 obtain⟨v,hv,v0,vn,one,ow⟩:=LB I V;have same:(∀x∈G.l,x.aU=true->x.name≠c)->VS ae G.l:=λao=>V.of (λv hv h0=>⟨v,hv,h0⟩) (λx hx=>.inl ⟨⟨x,hx,rfl,rfl⟩,λh1 h2=>hn _ h2 (ao x hx h1)⟩);have dead:∀{n:Nat},cr G.next G.l full=.error n->∀x∈G.l,x.aU=true->x.name≠c:=λ{n} hX x hx h1 h2=>by
  obtain⟨i,hi,rfl⟩:=V1 I V hs h0 hx h1 h2;have aI:=(F.Le hsn hi).1;have nc:¬0<κ (et G.l (recAt G.l i).id):=by obtain⟨i',ag,p1,p2⟩:=ca F.gk hx;rw[vN p1 (by rw[p2];exact h1)];unfold eh;rw[Aad];intro hp;obtain⟨k,hk⟩:=List.exists_mem_of_length_pos hp;obtain⟨k1,k2⟩:=List.mem_filter.mp hk;have k3:=(qb.mp k1).1;rw[p2,ow _ (aJ k3),ow _ hx]at k2;simp at k2
  obtain⟨j,hj,h3,e1,e2⟩:=F.UW aI h1;rcases I.cr full with⟨n',ad,_,ah⟩|⟨_,_,_,_,_,_,_,_,_,_,_,ad⟩
  ·cases hm:ea (k6 (bZ G.l (recAt G.l i).id) (recAt G.l j).dead) (recAt G.l i).dead with
   | none=>rw[pD hsn hi nc h3 hm]at ad;cases ad;exact ah rfl
   | some all=>
    by_cases h5:4000<κ all
    ·rw[pE hsn hi nc h3 hm h5]at ad;cases ad;exact ah rfl
    ·rw[kX hsn hi nc h3 hm h5]at ad;cases ad
  ·rw[ad]at hX;cases hX
 obtain⟨_,G2,R,e⟩:=h;unfold dY at R;rw[hs]at R;simp only[h0,if_false]at R;rcases R with⟨n,hX,_,_,rfl⟩|⟨nx,l',g,hX,hr,rfl⟩
 ·have:G3.l=G2.l:=by rcases e with⟨_,rfl⟩|⟨_,rfl⟩<;>rfl
  rw[this];exact same (dead hX)
 ·have:G3.l=l':=by exact FR
  rw[this];rcases I.cr full with⟨n,ad,_⟩|⟨i,j,all,hi,h1,aq,hj,e1,e2,only,hm,ad⟩
  ·rw[ad]at hX;cases hX
  ·rw[ad]at hX;cases hX;obtain⟨_,_,hnm⟩:=Yc I V hs h0 aq;obtain⟨im,jm⟩:=aA (aJ hi) (aJ hj);have ak:recAt G.l j≠recAt G.l i:=λe=>by have:=(F.e9 jm im e1.symm).2;rw[e]at this;grind
   have S2:ph (G.l.set j (fm (recAt G.l j) all (recAt G.l i).prev)):=rF F.gk rfl;have ai:i<κ (G.l.set j (fm (recAt G.l j) all (recAt G.l i).prev)):=ab
   have ei:recAt (G.l.set j (fm (recAt G.l j) all (recAt G.l i).prev)) i=recAt G.l i:=by rw[rA hj,aM (λe=>ak (by rw[e]))]
   have an:∀y∈G.l,y.aU=true->y.name=c->y=recAt G.l i:=λy hy a b=>F.nm y hy _ im (by unfold bY;rw[bo a,bo h1,ow y hy,ow _ im,b,hnm]);refine V.of (λu hu u0=>?_) (λx hx=>.inl ?_)
   ·by_cases e:u=recAt G.l j
    ·refine⟨fm (recAt G.l j) all (recAt G.l i).prev,(mem_erase S2 ai).mpr ⟨(mem_set F.gk hj).mpr (.inl rfl),λe3=>?_⟩,by rw[e]at u0;exact u0⟩;rw[ei]at e3;have h5:=cb al.aU e3;rw[h1]at h5;rw[e]at u0;have h5:(recAt G.l j).aU=true:=h5;rw[u0]at h5;cases h5
    ·refine⟨u,(mem_erase S2 ai).mpr ⟨(mem_set F.gk hj).mpr (.inr ⟨hu,e⟩),λe3=>?_⟩,u0⟩;rw[ei]at e3;rw[e3,h1]at u0;cases u0
   ·obtain⟨aa,aF⟩:=(mem_erase S2 ai).mp hx;rw[ei]at aF;rcases(mem_set F.gk hj).mp aa with rfl|⟨af,_⟩
    ·exact⟨⟨_,jm,rfl,rfl⟩,λa b=>hn _ b (λec=>ak (an _ jm a ec))⟩
    ·exact⟨⟨x,af,rfl,rfl⟩,λa b=>hn _ b (λec=>aF (an x af a ec))⟩
theorem Yb(I:bm G)(V:VS [] G.l)(h:dc G (dY G [118]) s r G3):G3.l=[]:=by
 have F:=I.hE;obtain⟨v,hv,v0,vn,one,ow⟩:=LB I V;have all:∀x∈G.l,x=v:=λx hx=>by
  cases hs:x.aU with
  | false=>exact one x hx hs
  | true=>exact absurd ((V.2 x hx).2 hs) aq
 have hl:κ G.l<=1:=ei G.l [v] (F.gk.imp (λ{a c} (h:a.id<c.id) e=>by rw[e]at h;omega)) (λx hx=>by rw[all x hx];simp);obtain⟨i,hi,p1,p2⟩:=F.placeOf hv;have e1:bY v=⟨0,[118]⟩:=by unfold bY;rw[aM (by simp[v0]),vn]
 rw[e1]at p1;have hs:cO [118]=some ([118],[]):=ay
 have nx:=A' (l:=G.l) hs p1 rfl;obtain⟨k,hk,r1,r2⟩:=ca F.gk hv;have rn:a1 G.l [118]=some k:=by unfold a1;rw[nx];show aV G.l (recAt G.l i).id=_;rw[p2,r1]
 have va:ec G.l [118]=.ok k:=by
  have:iL [118]=some [118]:=ay
  unfold ec;rw[this,rn]
 have pz:v.prev=0:=E9 λhp=>by obtain⟨y,hy,_,h2,_⟩:=F.pv v hv hp;rw[all y hy,v0]at h2;cases h2
 have wn:¬0<κ (gN G.l (recAt G.l k).id).1:=by rw[r2,Cc r1 (by rw[r2];exact v0),r2,pz,Ca];simp
 obtain⟨_,G2,R,e⟩:=h;unfold dY at R;rw[hs]at R;simp only[if_true]at R;rcases R with⟨n,hX,_⟩|⟨nx,l',x,hX,hr,rfl⟩
 ·rw[sk va wn]at hX;cases hX
 ·rw[sk va wn]at hX;cases hX;have:G3.l=G.l.eraseIdx k:=by exact FR
  rw[this];refine List.length_eq_zero_iff.mp ?_;rw[yN];split<;>omega
end
def YF:List (List aj):=[[118,64,99],[118,64,97],[118,64,100],[118,64,98],[118]]
def FI(k:Nat)(l:List al):Prop:=(k<=4/\VS (Qa.drop k) l)\/(k=5/\l=[])
theorem WK{G G3:ch}{s:cN}(I:bm G)(hk:k<5)(h:FI k G.l)(R:x9 G ⟨8,YF.getD k [],[],0,[]⟩ s r G3):FI (k+1) G3.l:=by
 have R:dc G (dY G (YF.getD k [])) s r G3:=R;rcases h with⟨_,V⟩|⟨rfl,_⟩
 ·have hc:k=0\/k=1\/k=2\/k=3\/k=4:=by omega
  rcases hc with rfl|rfl|rfl|rfl|rfl
  ·exact .inl ⟨ae,zn I V (full:=[118,64,99]) (c:=[99]) ay ax ax R⟩
  ·exact .inl ⟨ae,zn I V (full:=[118,64,97]) (c:=[97]) ay ax ax R⟩
  ·exact .inl ⟨ae,zn I V (full:=[118,64,100]) (c:=[100]) ay ax ax R⟩
  ·exact .inl ⟨ae,zn I V (full:=[118,64,98]) (c:=[98]) ay ax ax R⟩
  ·exact .inr ⟨rfl,Yb I V R⟩
 ·omega
theorem Gr(I:bm G)(hl:G.l=[])(h3:∀i,G.P.s i≠3):bp G.P.s+κ G.ms+4=κ G.P.C:=by
 have ln:=I.ln;have loc:∀q∈G.ms,((q.loc.toNat:Nat):Int)=q.loc/\q.loc.toNat<1024:=λq hq=>Fp
 have two:∀i,i<1024->(G.P.s i=2↔∃q∈G.ms,q.loc=(i:Int)):=λi hi=>by rw[I.s2 i hi,hl];simp
 let A:=(Aaj 1024).filter (λk=>decide (G.P.s k=1));let M:=G.ms.map (·.loc.toNat);let Z:=Aaj 4++(Aaj (1024-κ G.P.C)).map (· + κ G.P.C);have eA:κ A=bp G.P.s:=rfl;have eM:κ M=κ G.ms:=by show(G.ms.map _).length=_;rw[Aad]
 have eZ:κ Z=4+(1024-κ G.P.C):=by show(Aaj 4++_).length=_;simp
 have mA:∀i,i∈A↔i<1024/\G.P.s i=1:=λi=>by show i∈(Aaj 1024).filter _↔_;simp
 have mM:∀i,i<1024->(i∈M↔G.P.s i=2):=λi hi=>by
  rw[two i hi];show i∈G.ms.map _↔_;rw[Abf];constructor
  ·rintro⟨q,hq,rfl⟩;exact⟨q,hq,(loc q hq).1.symm⟩
  ·rintro⟨q,hq,e⟩;exact⟨q,hq,ae⟩
 have mZ:∀i,i∈Z↔i<1024/\G.P.s i=0:=λi=>by
  rw[I.s0 i];show i∈Aaj 4++_↔_;rw[eT,uf,Abf];constructor
  ·rintro(h|⟨k,hk,rfl⟩)
   ·exact⟨ae,.inl h⟩
   ·have:=List.mem_range.mp hk;exact⟨ae,.inr ae⟩
  ·rintro⟨h,h1|h1⟩
   ·exact .inl h1
   ·exact .inr ⟨i-κ G.P.C,List.mem_range.mpr ae,ae⟩
 have lM:∀i∈M,i<1024:=λi hi=>by obtain⟨q,hq,rfl⟩:=List.mem_map.mp hi;exact(loc q hq).2
 have ge:κ (Aaj 1024)<=κ (A++(M++Z)):=ei _ _ E8 (λi hi=>by obtain⟨hi,a,b⟩:=db (List.mem_range.mp hi) (I.s3 i) (h3 i);rw[eT,eT,mA,mM i hi,mZ];omega)
 have nM:M.Nodup:=by have:=I.md;show(G.ms.map (·.loc.toNat)).Nodup;exact Nj
 have nZ:Z.Nodup:=by refine List.nodup_append.mpr ⟨E8,List.pairwise_map.mpr (List.nodup_range.imp (λh e=>h ae)),?_⟩;intro a ha c hc e;have:=List.mem_range.mp ha;obtain⟨k,hk,rfl⟩:=List.mem_map.mp hc;omega
 have le:κ (A++(M++Z))<=κ (Aaj 1024):=ei _ _ (List.nodup_append.mpr ⟨List.nodup_range.filter _,List.nodup_append.mpr ⟨nM,nZ,λa ha c hc e=>by
  subst e;obtain⟨h1,h2⟩:=aA ((mM a (lM a ha)).mp ha) ((mZ a).mp hc);omega⟩,λa ha c hc e=>by
  subst e;have h1:=(mA a).mp ha;rcases List.mem_append.mp hc with h|h
  ·have:=(mM a h1.1).mp h;omega
  ·have:=(mZ a).mp h;omega⟩) (λi hi=>by
  rcases List.mem_append.mp hi with h|h
  ·exact List.mem_range.mpr ((mA i).mp h).1
  ·rcases List.mem_append.mp h with h|h
   ·exact List.mem_range.mpr (lM i h)
   ·exact List.mem_range.mpr ((mZ i).mp h).1)
 simp only[Aaf,Acx,eA,eM,eZ]at ge le;omega
theorem Y8{G G2:ch}{ats:List Nat}(K:G4 G b G2 ats):κ G2.ms=dU (κ b) (κ G.P.C):=by rw[<-K.len];have:=K.loc.length_eq;simpa using this
def DK(c0:Nat)(G:ch):Prop:=∃b,Wg G b/\(κ G.ms)=dU (cA G.l) c0
theorem Sq(hn:64<=c0/\c0<=400):dU 12 c0<=11:=by unfold dU;rw[uO ae ae];have:=oQ hn;omega
theorem Rg{G G3:ch}{s:cN}(I:bm G)(hl:G.l=[])(hx:G.next=1)(K:DK c0 G)(hc:κ G.P.C=c0)(h4:c0<=400)(h:x9 G ⟨0,[118],[],64,[]⟩ s r G3):VS Qa G3.l:=by
 have h:dc G (jv G (cG G.next G.l [118] 64) id true) s r G3:=h;have hX:cG G.next G.l [118] 64=.ok (2,[dw 1 [118] 64]):=by rw[hx,hl];rfl
 have hf:eS {G with next:=2,l:=[dw 1 [118] 64]}=true:=by have ln:=I.ln;obtain⟨b,D,hm⟩:=K;have h1:=Gr I hl D.no3;rw[hl]at hm;have hm:κ G.ms=dU 12 c0:=hm;have h2:=Sq (c0:=c0) ae;refine Ek ⟨yQ,by show 1<=32;omega,?_⟩ (by show cA [dw 1 [118] 64]<=128;decide) (by simp[cA,dw]) Tv (by show 11<=bp G.P.s;omega) TC;intro x hx;have hx:=hx;rw[List.mem_singleton.mp hx];decide
 obtain⟨_,G2,R,e⟩:=h;rw[hX]at R;rcases R with⟨n,h,_⟩|⟨nx,l',h,rfl,hr⟩
 ·cases h
 ·cases h;have hr:r=0:=by rw[hr,bo rfl];unfold tL;exact bo hf
  have:G3.l=[dw 1 [118] 64]:=by exact FR
  rw[this];refine⟨⟨_,List.mem_singleton.mpr rfl,rfl⟩,λx hx=>?_⟩;rw[List.mem_singleton.mp hx];exact⟨λ_=>rfl,λh=>fI⟩
section
open Go.Maps
theorem Dy(w:af)(p gb:Nat)(H:aP)(G:ch)(A:bT w p gb H G):Aae Aag 15 #[pz p] w λe w'=>e=.returned (i6 (bp G.P.s:Int))/\w=w':=by obtain⟨GP,PD,CN⟩:=aW (ia w gb H G A.ga) (k2 w H G.P A.ga.pa) (jc w H.mb G.P.s A.ga.pa.map);have c0:w.cell? (ad p 0)=some (pz gb):=A.e5.cell 0;clear A;generalize bp G.P.s=n at *;go_in;go_wp2_with fail;refine GP.mono ?_;refine eO ?_;intro wx;go_wp2_with fail;refine uD ?_;intro wx;go_wp2_with fail;refine CN.mono ?_;refine eO ?_;intro wx;go_wp2;go_ret;exact⟨rfl,rfl⟩
theorem uY{w:af}{p gb mb kb n:Nat}{H:aP}{G:ch}{M:cS}(A:bT w p gb H G)(AM:bh w mb kb n M):∀k,(PF H k\/k=p)->k≠mb/\k≠kb:=λk hk=>by
 obtain⟨_,a,_,c⟩:=AM;refine⟨λe=>by subst e;exact A.Xw a ax ax hk,λe=>?_⟩;subst e;rcases hk with h|rfl
 ·obtain⟨C,t,fr,h2⟩:=A.ga.pa.cellsOf h;obtain⟨_,D,⟨es,clock,hb,_⟩,_⟩:=c;rw[hb]at h2;cases h2
 ·exact c.ne A.e5 rfl
theorem XQ{n:Nat}{G:ch}{b:List aj}(N:gl n G b):o8 G Ga:=⟨by rw[N.nx];rfl,by rw[N.l];rfl,yT,rfl,λ_=>rfl,λx hx=>by rw[N.l]at hx;cases hx⟩
def Fq(w0:af)(p mb kb d0 c0:Nat)(Q:List al->Prop)(b d:Prop)(k:Nat)(W:af):Prop:=w0.heap.size<=p/\w0.heap.size<=mb/\w0.heap.size<=kb/\c0<=400/\∃gb H G M,bT W p gb H G/\bm G/\Ring G/\o8 G M/\(b->M.st=G.P.st)/\bh W mb kb (2200*k) M/\(G.next<=1+k/\G.P.st<=2+k/\G.P.m<=3*k/\G.u.dq<=1+k/\M.st<=2+k/\M.made<=k)/\Up w0 W/\(∀j,PF H j->w0.heap.size<=j)/\H.h.d=d0/\Q G.l/\(κ G.P.C)=c0/\(d->DK c0 G)
section
variable {w0 W Wr:af} {p mb kb d0 c0 k:Nat} {Q Q':List al->Prop} {b d:Prop}
theorem Fq.up(h:Fq w0 p mb kb d0 c0 Q b d k W)(u:Up W Wr):Fq w0 p mb kb d0 c0 Q b d k Wr:=by obtain⟨h1,h2,h3,h4,gb,H,G,M,a,i,r,s,st,am,bd,uw,uf,hd,q,hc,dk⟩:=h;exact⟨h1,h2,h3,h4,gb,H,G,M,a.up u,i,r,s,st,am.up u,bd,uw.trans u,uf,hd,q,hc,dk⟩
theorem Fq.more{k':Nat}{b' d':Prop}(h:Fq w0 p mb kb d0 c0 Q b d k W)(hk:k<=k')(f:∀l,Q l->Q' l)(hb:b'->b)(hd:d'->d):Fq w0 p mb kb d0 c0 Q' b' d' k' W:=by obtain⟨h1,h2,h3,h4,gb,H,G,M,a,i,r,s,st,am,bd,uw,uf,ao,q,hc,dk⟩:=h;exact⟨h1,h2,h3,h4,gb,H,G,M,a,i,r,s,λh=>st (hb h),am.Dp ae,⟨ae,ae,ae,ae,ae,ae⟩,uw,uf,ao,f _ q,hc,λh=>dk (hd h)⟩
theorem Fq.uw0(h:Fq w0 p mb kb d0 c0 Q b d k W):Up w0 W:=by obtain⟨_,_,_,_,gb,H,G,M,_,_,_,_,_,_,_,uw,_⟩:=h;exact uw
theorem qO(h:Fq w0 p mb kb d0 c0 Q b d k Wr)(u:Up Wr W)(hk:k<=200)(o:mP)(ar:o.kind≠5/\o.kind≠6)(ad ak:Option Addr)(nd cd nk ck:Nat)(aE:o.kind=4->b)(hi:RS W (.slice ad nd cd) o)(hd:κ o.data<=140737488351232)(hb1:o.data≠[]->∀j,(Acl ad nd cd).ownBlock=some j->Wr.heap.size<=j/\j<W.heap.size)(hQ:∀G G3 s r,bm G->Q G.l->(d->DK c0 G)->κ G.P.C=c0->(1<=G.next/\G.next<=1+k)->x9 G o s r G3->Q' G3.l):Aae Aag 9 #[pz p,pz mb,.agg (gi o (.slice ad nd cd) (.slice ak nk ck))] W λe w'=>e=.returned (.bool true)/\Fq w0 p mb kb d0 c0 Q' b False (k+1) w':=by
 obtain⟨h1,h2,h3,h4,gb,H,G,M,a,i,rg,s,st,am,bd,uw,uf,ao,q,hc,dk⟩:=h;have lt:p<Wr.heap.size/\(∀j,PF H j->j<Wr.heap.size)/\mb<Wr.heap.size/\kb<Wr.heap.size:=by obtain⟨_,x,_,z⟩:=am;exact⟨a.e5.lt,a.ga.pa.lt,x.lt,z.lt⟩
 have F:pf G:=⟨ae,ae,ae,ae⟩;refine(Sd W p gb H G (a.up u) i F mb kb (2200*k) M (am.up u) ae s ae ae o ar ad ak nd cd nk ck (λh=>st (aE h)) hi hd (λhne j hj=>by have:=hb1 hne j hj;exact⟨ae,ae,λhf=>by have:=lt.2.1 j hf;omega,ae,ae⟩) (uY (a.up u) (am.up u))).mono ?_
 rintro e w5⟨rfl,s2,r2,G3,gb',H',vp,M',aa,wQ,A5,ab,hH,T5,NH⟩;obtain⟨b1,b2,b3,b4,b5,c1⟩:=qA wQ.b1 wQ.b2 wQ.b3 wQ.b4 wQ.b5 wQ.c1;obtain⟨c2,uW⟩:=aA wQ.c2 ((uw.trans u).size);exact⟨rfl,h1,h2,h3,h4,gb',H',G3,M',A5,wQ.inv,Sy i F rg aa,wQ.sim,λhb=>wQ.st (st hb),ab.Dp ae,⟨ae,ae,ae,ae,ae,ae⟩,Touch.up T5 (uw.trans u) (λj hj=>by
  rcases hj with hj|rfl|rfl|rfl
  ·exact uf j hj
  ·exact h1
  ·exact h2
  ·exact h3),λj hj=>(NH.2 j hj).elim (uf j) (λh=>bN uW h),by rw[hH];exact ao,hQ _ _ _ _ i q dk hc ⟨s.n1,bd.1⟩ aa,ae,λh=>h.elim⟩
theorem tN(h:Fq w0 p mb kb d0 c0 Q b d k W)(hk:k<=200):Aae Aag 13 #[pz p,pz mb] W λe w'=>e=.returned (.bool true)/\Fq w0 p mb kb d0 c0 Q b d (k+1) w':=by
 obtain⟨h1,h2,h3,h4,gb,H,G,M,a,i,rg,s,st,am,bd,uw,uf,ao,q,hc,dk⟩:=h;refine(OH W p gb H G a i ⟨ae,ae,ae,ae⟩ mb kb (2200*k) M am ae s ae ae (uY a am)).mono ?_;rintro e w6⟨rfl,A6,aa,T6⟩;exact⟨rfl,h1,h2,h3,h4,gb,H,G,M,A6,i,rg,s,st,aa.Dp ae,⟨ae,ae,ae,ae,ae,ae⟩,Touch.up T6 uw (λj hj=>by
  rcases hj with hj|rfl|rfl
  ·exact uf j hj
  ·exact h2
  ·exact h3),uf,ao,q,hc,dk⟩
theorem L4(h:Fq w0 p mb kb d0 c0 Q b d k W)(hk:k<=200):Aae Aag 16 #[pz p] W λe w'=>e=.returned (i6 0)/\Fq w0 p mb kb d0 c0 Q False True (k+1) w':=by
 obtain⟨h1,h2,h3,h4,gb,H,G,M,a,i,rg,s,st,am,bd,uw,uf,ao,q,hc,dk⟩:=h;have F:pf G:=⟨ae,ae,ae,ae⟩;refine(wG W p gb H G a i F).mono ?_;rintro e w6⟨bb,G2,gb',H',vp,rfl,hb,hK,hC,hH,A6,T6,NH⟩;obtain⟨ats,K⟩:=vO i hC;obtain⟨aa,aF⟩:=yd i F rg hC hK;obtain⟨T7,e1,e2,e3,e4,e5⟩:=qA (T6.mono (F':=λk=>PF H k\/k=p) (λ_ h=>h.imp (λh=>.inr (.inr h)) id)) K.nx K.st K.m K.tx K.cl;exact⟨rfl,h1,h2,h3,h4,gb',H',G2,M,A6,i.com K hb ae,aF,s.sub (B':=M.B) K.nx K.l M rfl s.l s.z0 s.len (λx hx j hj=>by rw[K.read i hx hj];exact s.rd x hx j hj),λh=>h.elim,(am.XD a T7 (λh=>(uY a am kb h).2 rfl)).Dp ae,⟨ae,ae,ae,ae,ae,ae⟩,Touch.up T7 uw (λj hj=>by
  rcases hj with hj|rfl
  ·exact uf j hj
  ·exact h1),λj hj=>(NH.2 j hj).elim (uf j) (λh=>bN uw.size h),by rw[hH];exact ao,by rw[K.l];exact q,ae,λ_=>⟨bb,aa,by rw[Y8 K,hb,hc,K.l]⟩⟩
theorem HB(h:Fq w0 p mb kb d0 c0 Q b True k W):Aae Aag 14 #[pz d0] W λe w'=>e=.returned (.bool true)/\Fq w0 p mb kb d0 c0 Q b True k w':=by obtain⟨h1,h2,h3,h4,gb,H,G,M,a,i,rg,s,st,am,bd,uw,uf,rfl,q,hc,dk⟩:=h;obtain⟨bb,K,_⟩:=dk trivial;refine(O0 W H.h G _ _ a.ga.pa.dev i rg bb K).mono ?_;rintro e w7⟨rfl,D7,T7⟩;have T8:=T7.mono (F':=λk=>PF H k\/k=p) (λ_ h=>.inl (.inr (.inr h)));exact⟨rfl,h1,h2,h3,h4,gb,H,G,M,a.clean D7 T7,i,rg,s,st,am.XD a T8 (λh=>(uY a am kb h).2 rfl),bd,Touch.up T7 uw (λj hj=>uf j (.inr (.inr hj))),uf,rfl,q,hc,dk⟩
theorem WQ(h:Fq w0 p mb kb d0 c0 (λl=>l=[]) b d k W):Aae Aag 11 #[pz p] W λe w'=>∃a c,e=.returned (.slice a 0 c)/\Up W w':=by obtain⟨h1,h2,h3,h4,gb,H,G,M,a,i,rg,s,st,am,bd,uw,uf,hd,q,hc,dk⟩:=h;refine(wE W p gb H G a i).mono ?_;rintro e w6⟨v6,rfl,o6,u6⟩;rw[q]at o6;obtain⟨a6,c6,rfl⟩:=(ak.row o6 iw).slice;exact⟨a6,c6,rfl,u6⟩
theorem WR(h:Fq w0 p mb kb d0 c0 (λl=>l=[]) b True k W):Aae Aag 15 #[pz p] W λe w'=>e=.returned (i6 ((c0-4-dU 12 c0:Nat):Int))/\W=w':=by
 obtain⟨h1,h2,h3,h4,gb,H,G,M,a,i,rg,s,st,am,bd,uw,uf,hd,q,hc,dk⟩:=h;obtain⟨bb,K,hm⟩:=dk trivial;have:=Gr i q K.no3;rw[q]at hm;have hm:κ G.ms=dU 12 c0:=hm;have e:bp G.P.s=c0-4-dU 12 c0:=ae
 rw[<-e];exact Dy W p gb H G a
theorem Ze{gb:Nat}{H:aP}{G:ch}{bb:List aj}(hn:c0<=400)(h1:w0.heap.size<=p)(h2:w0.heap.size<=mb)(h3:w0.heap.size<=kb)(a:bT W p gb H G)(N:gl c0 G bb)(am:bh W mb kb 0 Ga)(uw:Up w0 W)(uf:∀j,PF H j->w0.heap.size<=j)(hd:H.h.d=d0)(hq:∀l,l=[]->Q l):Fq w0 p mb kb d0 c0 Q True True 0 W:=⟨h1,h2,h3,hn,gb,H,G,Ga,a,N.inv,N.ring,XQ N,λ_=>by rw[N.st];rfl,am,⟨yT,by rw[N.st];omega,by rw[N.m];omega,by rw[N.tx];omega,ax,ax⟩,uw,uf,hd,hq _ N.l,N.len,λ_=>⟨bb,N.dsk,by rw[N.msl,N.l];rfl⟩⟩
end
end
section
open Go.Maps
theorem aac:zc Aag 33=gi ⟨0,[],[],0,[]⟩ (nl) (nl):=av
theorem Sh(k n:Int)(s:List aj):prog.built 33 [(0,i6 k),(1,.string (strOf s)),(3,i6 n)]=some (gi ⟨k,s,[],n,[]⟩ nl nl):=av
theorem Si(n:Int)(s l:List aj)(a:Option Addr)(m c:Nat):prog.built 33 [(0,i6 1),(1,.string (strOf s)),(3,i6 n),(4,.slice a m c)]=some (gi ⟨1,s,[],n,l⟩ (.slice a m c) nl):=av
theorem Hc(k:Int)(s:List aj):prog.built 33 [(0,i6 k),(1,.string (strOf s))]=some (gi ⟨k,s,[],0,[]⟩ nl nl):=av
theorem HI(o:mP)(a b:Option Addr)(m c n e:Nat):(prog.info? 33).map (·.size)=some (gi o (.slice a m c) (.slice b n e)).size:=ay
theorem Gf(a b:Option Addr)(m c n e:Nat)(o:mP):(gi o (.slice a m c) (.slice b n e)).all (·.oneCell')=true:=by simp[gi,Ac8]
theorem Zl{w:af}{a:Option Addr}{n cap:Nat}{l:List Int}(h:aD bz w (.slice a n cap) l){k:Nat}(hk:k<κ l):∃b off,a=some ⟨b,off,none⟩/\w.cell? ⟨b,off+k,none⟩=some (i6 l[k]):=by
 rcases h with⟨rfl,_⟩|⟨b,off,c,e,_,_,_,hc⟩
 ·cases hk
 ·cases e;exact⟨b,off,rfl,hc k hk⟩
theorem Ot(x:Int):∃b:aj,Acj .u8 (x%256)=aF b:=by
 refine⟨Ab8 (x%256).toNat,?_⟩;unfold aF;congr 1;have:(Ab8 (x%256).toNat).toNat=(x%256).toNat:=by rw[UInt8.toNat_ofNat'];exact Nat.mod_eq_of_lt ae
 rw[this];omega
theorem Y4{w:af}{g:Nat}{v1 v2:ah}{y1 y2:aj}(hb:aH w g 5 #[v1,v2])(h1:v1=aF y1)(h2:v2=aF y2):a8 w (cv g 2 2) [y1,y2]:=by
 subst h1;subst h2;refine .inr ⟨g,0,2,rfl,Nat.zero_lt_succ _,aG _,dE,λi hi=>?_⟩;have hi:i<2:=hi;have:i=0\/i=1:=ae
 rcases this with rfl|rfl
 ·exact hb.cell 0
 ·exact hb.cell 1
section
variable {P:bx} {ops:Array Abn} {Q:Exit->Act->af->Prop} {a:Act} {w:af} {rest:List Abn} {o:Abn}
def vt{P:bx}{ops:Array Oper}{Q:Exit->Act->af->Prop}{rest:List Oper}{a:Act}{w:af}{dst:Option Tmp}{type:TypeId}{pos:String}{after:Array Edge}{guard:Option (Nat × Bool)}(ty:TypeId)(x y:bO)(h:wpList P ops Q ({dst:=dst,op:=.index ty x y,type:=type,pos:=pos,after:=after,guard:=guard}::rest) a w):wpList P ops Q ({dst:=dst,op:=.index ty x y,type:=type,pos:=pos,after:=after,guard:=guard}::rest) a w:=h
theorem fv(v:ah)(h:wpList P ops Q rest (a.put o.dst v) w)(hv:∀w,(execOp a.eval o).run P w=.ok (.value v) w)(hgd:o.guard=none:=by rfl):wpList P ops Q (o::rest) a w:=gZ hgd λ_ hK=>LH (hv w) (hK _ _ h)
theorem fvi{ty:TypeId}{x y:bO}{A j:ah}(v:ah)(hI:∀W:af,(Instr.index ty A j).run P W=.ok v W)(h:wpList P ops Q rest (a.put o.dst v) w)(hop:o.op=.index ty x y:=by rfl)(hx:a.eval x=A:=by rfl)(hy:a.eval y=j:=by rfl)(hgd:o.guard=none:=by rfl):wpList P ops Q (o::rest) a w:=fv v h (λW=>by
  unfold Abs;rw[hop];simp only[hx,hy,Aaw,hI,Aau,Acq]) hgd
end
def Ct(k:Nat):Int:=if k%3=0 then 9 else if k%3=1 then 4 else 2
theorem Yv(k:Nat):Ct k≠5/\Ct k≠6:=by
 unfold Ct;split
 ·omega
 ·split<;>omega
theorem Ep:(∀W:af,(Abi 48 (.agg #[i6 9,i6 4,i6 2]) (i6 0)).run Aag W=.ok (i6 9) W)/\(∀W:af,(Abi 48 (.agg #[i6 9,i6 4,i6 2]) (i6 1)).run Aag W=.ok (i6 4) W)/\∀W:af,(Abi 48 (.agg #[i6 9,i6 4,i6 2]) (i6 2)).run Aag W=.ok (i6 2) W:=⟨gE,gE,gE⟩
theorem SX(k:Nat)(W:af):(Abi 48 (.agg #[i6 9,i6 4,i6 2]) (i6 ((k:Int)%3))).run Aag W=.ok (i6 (Ct k)) W:=by
 have h:k%3=0\/k%3=1\/k%3=2:=ae
 unfold Ct;rcases h with h|h|h
 ·rw[bo h,show(k:Int)%3=0 from ae];exact Ep.1 W
 ·rw[aM ae,bo h,show(k:Int)%3=1 from ae];exact Ep.2.1 W
 ·rw[aM ae,aM ae,show(k:Int)%3=2 from ae];exact Ep.2.2 W
def Wh(k:Nat):List aj:=if k%4=0 then [118,64,97] else if k%4=1 then [118,64,98] else if k%4=2 then [118,64,99] else [118,64,100]
def snV:Array ah:=#[.string (strOf [118,64,97]),.string (strOf [118,64,98]),.string (strOf [118,64,99]),.string (strOf [118,64,100])]
theorem yh:(∀W:af,(Abi 49 (.agg snV) (i6 0)).run Aag W=.ok (.string (strOf [118,64,97])) W)/\(∀W:af,(Abi 49 (.agg snV) (i6 1)).run Aag W=.ok (.string (strOf [118,64,98])) W)/\(∀W:af,(Abi 49 (.agg snV) (i6 2)).run Aag W=.ok (.string (strOf [118,64,99])) W)/\(∀W:af,(Abi 49 (.agg snV) (i6 3)).run Aag W=.ok (.string (strOf [118,64,100])) W):=⟨gE,gE,gE,gE⟩
theorem Zj(k:Nat)(W:af):(Abi 49 (.agg snV) (i6 ((k:Int)%4))).run Aag W=.ok (.string (strOf (Wh k))) W:=by
 have h:k%4=0\/k%4=1\/k%4=2\/k%4=3:=ae
 unfold Wh;rcases h with h|h|h|h
 ·rw[bo h,show(k:Int)%4=0 from ae];exact yh.1 W
 ·rw[aM ae,bo h,show(k:Int)%4=1 from ae];exact yh.2.1 W
 ·rw[aM ae,aM ae,bo h,show(k:Int)%4=2 from ae];exact yh.2.2.1 W
 ·rw[aM ae,aM ae,aM ae,show(k:Int)%4=3 from ae];exact yh.2.2.2 W
theorem YL(k:Nat):κ (Wh k)<=9/\∃c∈Qa,dX (Wh k)=some ([118],c):=by
 unfold Wh;split
 ·exact⟨ax,[97],ax,ay⟩
 ·split
  ·exact⟨ax,[98],ax,ay⟩
  ·split
   ·exact⟨ax,[99],ax,ay⟩
   ·exact⟨ax,[100],ax,ay⟩
def ZB:Array ah:=#[.string (strOf [118,64,99]),.string (strOf [118,64,97]),.string (strOf [118,64,100]),.string (strOf [118,64,98]),.string (strOf [118])]
theorem tS:(∀W:af,(Abi 52 (.agg ZB) (i6 0)).run Aag W=.ok (.string (strOf [118,64,99])) W)/\(∀W:af,(Abi 52 (.agg ZB) (i6 1)).run Aag W=.ok (.string (strOf [118,64,97])) W)/\(∀W:af,(Abi 52 (.agg ZB) (i6 2)).run Aag W=.ok (.string (strOf [118,64,100])) W)/\(∀W:af,(Abi 52 (.agg ZB) (i6 3)).run Aag W=.ok (.string (strOf [118,64,98])) W)/\(∀W:af,(Abi 52 (.agg ZB) (i6 4)).run Aag W=.ok (.string (strOf [118])) W):=⟨gE,gE,gE,gE,gE⟩
theorem Zi(hk:k<5)(W:af):(Abi 52 (.agg ZB) (i6 (k:Int))).run Aag W=.ok (.string (strOf (YF.getD k []))) W:=by
 have h:k=0\/k=1\/k=2\/k=3\/k=4:=ae
 rcases h with rfl|rfl|rfl|rfl|rfl
 ·exact tS.1 W
 ·exact tS.2.1 W
 ·exact tS.2.2.1 W
 ·exact tS.2.2.2.1 W
 ·exact tS.2.2.2.2 W
theorem ZC(hk:k<5):κ (YF.getD k [])<=9:=by
 have h:k=0\/k=1\/k=2\/k=3\/k=4:=ae
 rcases h with rfl|rfl|rfl|rfl|rfl<;>decide
theorem Sg:prog.built 52 [(0,.string (strOf [118,64,99])),(1,.string (strOf [118,64,97])),(2,.string (strOf [118,64,100])),(3,.string (strOf [118,64,98])),(4,.string (strOf [118]))]=some ZB:=av
theorem Yd(w0:af)(N E:Int)(hE:-9223372036854775808<=E/\E<=9223372036854775807)(va:ah)(al:List Int)(ha:aD bz w0 va al):Aae Aag 5 #[i6 N,va,i6 E] w0 λe w'=>e=.returned (.bool true)/\Up w0 w':=by
 obtain⟨aa,ac,rfl⟩:=ha.slice;obtain⟨m,hm⟩:=bK (κ al);have HM:=an hm;rw[<-hm]at ha ⊢;obtain⟨HA,HE⟩:=aw ha hE;clear hm ha hE;go_in;go_wp2_with fail;refine(OJ w0).mono ?_;rintro e w1⟨rfl,u1⟩;go_wp2_with fail;refine(HZ _ N).mono ?_;rintro e w2 h;rcases h with⟨_,rfl,u2⟩|⟨h1,h2,p,gb,H,G,b,rfl,A2,u2,up,uf,NP⟩
 ·have U2:=an (u1.trans u2);exact uG
 obtain⟨S1,U2⟩:=aw u1.size (u1.trans u2);obtain⟨UP,UF,HN⟩:=aW (show w0.heap.size<=p from bN S1 up) (show ∀j,PF H j->w0.heap.size<=j from λj hj=>bN S1 (uf j hj)) (show 64<=N.toNat/\N.toNat<=400 from ae);clear up uf h1 h2;by_cases ai:120<m
 ·have b1:((m:Int)>120)=True:=by simp;omega
  exact uG
 have b1:((m:Int)>120)=False:=ab
 by_cases e1:E<1
 ·have b2:=eo e1;exact uG
 have b2:=cz e1;by_cases n120:N>120
 ·have b3:=eo n120;exact uG
 have b3:=cz n120;have m12:m<=120:=ae
 have H1:=an (show 1<=E from ae);clear ai e1 n120;obtain⟨c0,aJ⟩:=bK N.toNat;rw[<-aJ]at NP HN;obtain⟨R,hR⟩:=bK (c0-4-dU 12 c0);have RM:=an (show Aae Aag 15 #[pz p] w2 λe w'=>e=.returned (i6 (R:Int))/\w2=w' from by
  obtain⟨h1,h2,h3⟩:=db (Gr NP.inv NP.l NP.dsk.no3) NP.msl NP.len;have e:bp G.P.s=R:=ae
  rw[<-e];exact Dy w2 p gb H G A2)
 have HR:=an hR;clear aJ hR;go_wp2_with fail;refine RM.out.mono ?_;refine eO ?_;intro wx;go_wp2_with fail;refine(PZ _).mono ?_;rintro e w3⟨mb,kb,rfl,m1,m2,AM,u3⟩;obtain⟨d0,ao⟩:=bK H.h.d;rw[<-ao];have FQ:=an (Ze (w0:=w0) (d0:=d0) (Q:=λl=>l=[]) HN.out.2 UP.out (bN U2.size m1) (bN U2.size m2) (A2.up u3) NP AM (U2.out.trans u3) UF.out ao.symm (λ_ h=>h));clear m1 m2 S1 u1 u2 u3 A2 AM b1 b2 b3 RM ao;have B0:=an (Sh 0 64 [118]);have s:=Fr.start w3;go_wp2_with(refine fw s ?_;intro _ w s);refine(qO (Q':=VS Qa) FQ.out s.pure ae ⟨0,[118],[],64,[]⟩ ⟨ax,ax⟩ none none 0 0 0 0 (λh=>fI) ⟨ax,ax,aD.nil _ _⟩ ax (λh=>absurd rfl h) (λG G3 s r I hl K hc hx D=>Rg I hl ae (K trivial) hc HN.out.2 D)).mono ?_;rintro e w4⟨rfl,fq⟩;clear s B0 FQ;go_wp2;go_loopw [48] (λi wr=>∃k:Nat,k<=m/\i=i6 k/\Fq w0 p mb kb d0 c0 (VS Qa) True False (k+1) wr) (λi _=>m-(Aat i).toNat)
 case atStart=>exact⟨0,bE _,rfl,fq⟩
 case round=>
  clear fq;obtain⟨k,hk,rfl,fq⟩:=hrel;by_cases hlt:k<m
  ·have b4:((k:Int)<(m:Int))=True:=by simp;omega
   have KA:k<κ al:=dL
   obtain⟨ba,oa,rfl,ca⟩:=Zl HA KA;have CA:=fq.uw0.cell ca;obtain⟨z,hz⟩:=bK (al[k]);rw[<-hz]at CA;clear ca hz KA;obtain⟨y1,au⟩:=Ot (k:Int);rw[show(k:Int)%256=k from ae]at au;obtain⟨y2,aj⟩:=Ot z;obtain⟨FQ,Y1,Y2⟩:=aW fq au aj;clear fq au aj;have s:=Fr.start wr;have WE:IntKind.i64.wrap (E-1)=E-1:=by obtain⟨h1,h2⟩:=aA HE.out H1.out;have:=aY (E-1).toNat ae;rwa [Int.toNat_of_nonneg ae]at this
   have EZ:(E=0)=False:=by have:=H1.out;simp;omega
   obtain⟨I4,BP⟩:=aw (HI ⟨1,[118],[],z,[y1,y2]⟩) (λg=>Si z [118] [y1,y2] (some ⟨g,0,none⟩) 2 2);by_cases he:(k:Int)%E=E-1
   ·have q1:((k:Int)%E==E-1)=true:=by simpa using he
    obtain⟨I6,O6⟩:=aA (HI ⟨Ct k,[118],[],z,[]⟩ none none 0 0 0 0) (Gf none none 0 0 0 0 ⟨Ct k,[118],[],z,[]⟩);clear he;by_cases h4:Ct k=4
    ·have q4:(Ct k==4)=true:=by simp[h4]
     have SP:(Aby (gi ⟨Ct k,[118],[],z,[]⟩ nl nl).toList 1 (#[.string (strOf (Wh k))]:Array ah).toList).toArray=gi ⟨Ct k,Wh k,[],z,[]⟩ nl nl:=rfl;have H4:=an h4;clear h4;go_wp2_with(first|((with_reducible refine dI 33 #[(0,.tmp 69),_,_] ?_);refine fv (.agg (gi ⟨Ct k,[118],[],z,[]⟩ nl nl)) ?_ gE)|((with_reducible refine dI 48 _ ?_);refine fv (.agg #[i6 9,i6 4,i6 2]) ?_ gE)|((with_reducible refine vt 48 _ _ ?_);refine fvi (i6 (Ct k)) (SX k) ?_)|((with_reducible refine dI 49 _ ?_);refine fv (.agg snV) ?_ gE)|((with_reducible refine vt 49 _ _ ?_);refine fvi (.string (strOf (Wh k))) (Zj k) ?_)|(refine fw s ?_;intro _ w s)|((with_reducible refine dJ 30 2 _ ?_);refine Y' #[.int .u8 (k:Int),.int .u8 (z%256)] 5 (λg=>cv g 2 2) s ?_;intro g w s;have ak:=BP.out g;have I5:=I4.out (some ⟨g,0,none⟩) none 2 2 0 0;have O5:=Gf (some ⟨g,0,none⟩) none 2 2 0 0 ⟨1,[118],[],z,[y1,y2]⟩)|((with_reducible refine vs 33 ?_);refine fa s ?_ (hC:=aac);intro g2 w s));refine(qO (Q':=VS Qa) FQ.out s.pure ae ⟨Ct k,Wh k,[],z,[]⟩ (Yv k) none none 0 0 0 0 (λ_=>trivial) ⟨by have:=(YL k).1;show(Wh k).length<=_;omega,bE _,aD.nil _ _⟩ (bE _) (λh=>absurd rfl h) (λG G3 s r I V _ _ _ D=>VS.do I V (.inr (.inr (.inr (.inr ⟨H4.out,(YL k).2⟩)))) D)).mono ?_;rintro e w5⟨rfl,ad⟩;have F5:=an ad;clear ad s;go_wp2;go_roundw
     case rel=>exact⟨k+1,ae,aq,F5.out⟩
     case measure=>simp only[Aat];omega
    ·have q4:(Ct k==4)=false:=by simp[h4]
     have H4:=an (show Ct k=2\/Ct k=9 from by unfold Ct at h4 ⊢;split<;>simp_all);clear h4;go_wp2_with(first|((with_reducible refine dI 33 #[(0,.tmp 69),_,_] ?_);refine fv (.agg (gi ⟨Ct k,[118],[],z,[]⟩ nl nl)) ?_ gE)|((with_reducible refine dI 48 _ ?_);refine fv (.agg #[i6 9,i6 4,i6 2]) ?_ gE)|((with_reducible refine vt 48 _ _ ?_);refine fvi (i6 (Ct k)) (SX k) ?_)|(refine fw s ?_;intro _ w s)|((with_reducible refine dJ 30 2 _ ?_);refine Y' #[.int .u8 (k:Int),.int .u8 (z%256)] 5 (λg=>cv g 2 2) s ?_;intro g w s;have ak:=BP.out g;have I5:=I4.out (some ⟨g,0,none⟩) none 2 2 0 0;have O5:=Gf (some ⟨g,0,none⟩) none 2 2 0 0 ⟨1,[118],[],z,[y1,y2]⟩)|((with_reducible refine vs 33 ?_);refine fa s ?_ (hC:=aac);intro g2 w s));refine(qO (Q':=VS Qa) FQ.out s.pure ae ⟨Ct k,[118],[],z,[]⟩ (Yv k) none none 0 0 0 0 (λ_=>trivial) ⟨wv,bE _,aD.nil _ _⟩ (bE _) (λh=>absurd rfl h) (λG G3 s r I V _ _ _ D=>VS.do I V (H4.out.elim (λh=>.inr (.inl h)) (λh=>.inr (.inr (.inr (.inl h))))) D)).mono ?_;rintro e w5⟨rfl,ad⟩;have F5:=an ad;clear ad s;go_wp2;go_roundw
     case rel=>exact⟨k+1,ae,aq,F5.out⟩
     case measure=>simp only[Aat];omega
   ·have q1:((k:Int)%E==E-1)=false:=by simpa using he
    have q4:((1:Int)==4)=false:=ay
    clear he;go_wp2_with(first|(refine fw s ?_;intro _ w s)|((with_reducible refine dJ 30 2 _ ?_);refine Y' #[.int .u8 (k:Int),.int .u8 (z%256)] 5 (λg=>cv g 2 2) s ?_;intro g w s;have ak:=BP.out g;have I5:=I4.out (some ⟨g,0,none⟩) none 2 2 0 0;have O5:=Gf (some ⟨g,0,none⟩) none 2 2 0 0 ⟨1,[118],[],z,[y1,y2]⟩)|((with_reducible refine vs 33 ?_);refine fa s ?_ (hC:=aac);intro g2 w s));obtain⟨B5,L5⟩:=aA (s.e5 (t:=5) gR) (s.f _ (bt _ cV) _ rfl);refine(qO (Q':=VS Qa) FQ.out s.pure ae ⟨1,[118],[],z,[y1,y2]⟩ ⟨by show(1:Int)≠5;omega,by show(1:Int)≠6;omega⟩ (some ⟨_,0,none⟩) none 2 2 0 0 (λ_=>trivial) ⟨wv,bE _,Y4 B5 Y1.out Y2.out⟩ yQ (λ_ j hj=>by have e:some _=some j:=hj;cases e;exact⟨L5.2.resolve_left id,L5.1⟩) (λG G3 s r I V _ _ _ D=>VS.do I V (.inl rfl) D)).mono ?_
    rintro e w5⟨rfl,ad⟩;have F5:=an ad;clear ad s;go_wp2;go_roundw
    case rel=>exact⟨k+1,ae,aq,F5.out⟩
    case measure=>simp only[Aat];omega
  ·obtain rfl:m=k:=by omega
   have b4:((m:Int)<(m:Int))=False:=aq
   go_wp2_with fail;refine(tN fq ae).mono ?_;rintro e w5⟨rfl,fq⟩;go_wp2_with fail;refine(L4 fq ae).mono ?_;rintro e w6⟨rfl,fq⟩;go_wp2_with fail;refine(HB fq).mono ?_;rintro e w7⟨rfl,fq⟩;go_wp2_with fail;refine(tN fq ae).mono ?_;rintro e w8⟨rfl,fq⟩;have B7:=an (Hc 7 [118]);have s:=Fr.start w8;go_wp2_with(refine fw s ?_;intro _ w s);refine(qO (Q':=VS Qa) fq s.pure ae ⟨7,[118],[],0,[]⟩ ⟨ax,ax⟩ none none 0 0 0 0 (λh=>fI) ⟨ax,ax,aD.nil _ _⟩ ax (λh=>absurd rfl h) (λG G3 s r I V _ _ _ D=>VS.do I V (.inr (.inr (.inl rfl))) D)).mono ?_;rintro e w9⟨rfl,ar⟩;clear s fq;go_wp2_with fail;refine(tN ar ae).mono ?_;rintro e aV⟨rfl,fq⟩;obtain⟨FQ,B8⟩:=aw (fq.more (k':=m+10) (Q':=FI 0) (b':=False) (d':=False) ae (λl h=>.inl ⟨ae,h⟩) (λh=>h.elim) (λh=>h.elim)) Sg;have s:=Fr.start aV;clear fq ar;go_wp2_with(refine fw s ?_;intro _ w s);have F9:=an (FQ.out.up s.pure);clear s FQ;go_loopw [118] (λi wr=>∃k:Nat,k<=5/\i=i6 k/\Fq w0 p mb kb d0 c0 (FI k) False False (m+10+2*k) wr) (λi _=>5-(Aat i).toNat)
   case atStart=>exact⟨0,bE _,rfl,F9.out⟩
   case round=>
    obtain⟨k,hk,rfl,fq⟩:=hrel;by_cases hlt:k<5
    ·have b5:((k:Int)<5)=True:=by simp;omega
     obtain⟨B9,NL,IX,FQ⟩:=bR (Hc 8 (YF.getD k [])) (ZC hlt) (Zi hlt) fq;clear fq;have s:=Fr.start wr;go_wp2_with(first|(refine fw s ?_;intro _ w s)|((with_reducible refine vt 52 _ _ ?_);refine fvi (.string (strOf (YF.getD k []))) IX.out ?_));refine(qO (Q':=FI (k+1)) FQ.out s.pure ae ⟨8,YF.getD k [],[],0,[]⟩ ⟨by show(8:Int)≠5;omega,by show(8:Int)≠6;omega⟩ none none 0 0 0 0 (λh=>fI) ⟨by have:=NL.out;show(YF.getD k []).length<=_;omega,bE _,aD.nil _ _⟩ (bE _) (λh=>absurd rfl h) (λG G3 s r I V _ _ _ D=>WK I hlt V D)).mono ?_;rintro e w5⟨rfl,ad⟩;clear s;go_wp2_with fail;refine(tN ad ae).mono ?_;rintro e w6⟨rfl,ag⟩;have F6:=an ag;clear ad ag;go_wp2;go_roundw
     case rel=>exact⟨k+1,ae,aq,F6.out⟩
     case measure=>simp only[Aat];omega
    ·obtain rfl:k=5:=by omega
     have b5:((5:Int)<5)=False:=aq
     have fq:=fq.more (k':=m+20) (Q':=λl=>l=[]) (b':=False) (d':=False) ae (λl h=>h.elim (λh=>by have:=h.1;omega) (λh=>h.2)) (λh=>h) (λh=>h);go_wp2_with fail;refine(WQ fq).mono ?_;rintro e w5⟨a5,c5,rfl,u5⟩;have fq:=fq.up u5;go_wp2_with fail;refine(L4 fq ae).mono ?_;rintro e w6⟨rfl,ag⟩;have RM:=an (WR ag);rw[<-HR.out]at RM;go_wp2_with fail;refine RM.out.mono ?_;refine eO ?_;intro wx;go_wp2_with fail;refine(HB ag).mono ?_;rintro e w7⟨rfl,az⟩;go_wp2;go_ret;exact⟨rfl,az.uw0⟩
end
section
open Go.ChangeAt Go.ChangeShapes Go.WideShapes
theorem own:ownKnob prog.godebug=none:=av
theorem laidOut:laidOutB Aag=true:=av
theorem lifted(os:Os)(started:os.Started)(H:Type)(enc:Aab × ah->H):ReturnsInHanded {} Tryz.checked os 5 .any (Rows.wholeFullSpec.pre6 enc Aag Tryz.f5 Rows.wholeFullRow.domain false) (Rows.wholeFullSpec.post enc Aag Tryz.f5 false true false false):=by
 refine returnsInHanded_of_change_sized (C:=Tryz.checked) own started av func5 (ChangeSpec.witness6 (enc:=enc) (C:=Tryz.checked) false ⟨#[],#[i6 0,nl,i6 0],[]⟩ 8 av av av av) ?_;intro W base args ds gs before ad hW ak a1 _;have ab:=ad;have ai:=hW;obtain⟨p,q,af,hV,rfl,al,aY⟩:=hW;obtain⟨hA,aL⟩:=aA af a1;rw[Tryz.params5]at hA ab aL;obtain⟨v0,aD,d0,ay,p0,aj,ag,rfl,rfl,h0,au⟩:=trodAll_cons hA;obtain⟨v1,aE,d1,az,p1,aq,rfl,rfl,rfl,h1,aw⟩:=trodAll_cons au;obtain⟨v2,aF,d2,aB,p2,aC,rfl,rfl,rfl,h2,ax⟩:=trodAll_cons aw;obtain⟨rfl,rfl,rfl⟩:=trodAll_nil ax;obtain rfl:args=#[v0,v1,v2]:=by cases args;simp_all
 obtain⟨rfl,rfl⟩:=trodVars_none hV;have k0:=h0;have an:∀x∈p0,x.block<W.heap.size:=by obtain⟨m,hm⟩:=k0;exact DataW.trod_lt m _ _ _ hm
 obtain⟨n0,rfl,b0⟩:=If underlying3 (ab 0 3 v0 rfl rfl) h0;have k1:=h1;have ao:∀x∈p1,x.block<W.heap.size:=by obtain⟨m,hm⟩:=k1;exact DataW.trod_lt m _ _ _ hm
 obtain⟨l1,b1⟩:=Qh (ab 1 41 v1 rfl rfl) h1;have k2:=h2;have ar:∀x∈p2,x.block<W.heap.size:=by obtain⟨m,hm⟩:=k2;exact DataW.trod_lt m _ _ _ hm
 obtain⟨n2,rfl,b2⟩:=If underlying3 (ab 2 3 v2 rfl rfl) h2;clear af ad ab aL a1;refine(Yd W n0 n2 b2 v1 l1 b1).mono λe W' ⟨he,ae⟩=>?_;subst he;exact⟨_,rfl,_,_,_,[],_,[],ai,trodAll_mk1 (shut_bool underlying4 _),(Fb (Below.trod laidOut av (iy av) k0 ae an) (Fb (Below.trod laidOut av (iy av) k1 ae ao) (Fb (Below.trod laidOut av (iy av) k2 ae ar) trodAll_mk0))),rfl,ae.below.frame _,λh=>aa⟩
theorem abC:Rows.wholeFullRow.holds Tryz.pinned (OpenSpec.ofChange Rows.wholeFullSpec):=OpenClaim.holds_of_wide 5 Tryz.f5 rfl rfl rfl rfl rfl rfl rfl ⟨rfl,rfl,rfl,rfl,rfl⟩ rfl rfl rfl rfl rfl av func5 Rl (iy av) (by unfold Func.isWrapper;rw[aM (Fa av)];exact⟨rfl,rfl⟩) (λos started H enc _=>lifted os started H enc)
def proved:Rows.WholeFullSaid:=abC
#print axioms proved
end
end Go.Proofs.YtkpjfnbbkohciaaGreat
