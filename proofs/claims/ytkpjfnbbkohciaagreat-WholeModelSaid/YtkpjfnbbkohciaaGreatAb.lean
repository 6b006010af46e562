import Derived.Test.YtkpjfnbbkohciaaGreatAa
set_option maxRecDepth 100000
set_option maxHeartbeats 16000000
set_option linter.all false
open Go renaming Oper->Abn,TypeId->Aab,yielded->Aa1,wpStill->Ade,execOp->Abt,Addr->Adr,undef->Aas,splice->Abx,Calls->Aae,wpList->Aal,zeroValue->Acj,madeCells->Acv,Ending->Ab2,YieldsIf->Acb,wpAnyH->Acp,ResultVar->Ac8
open Go.Region renaming wanted->Aaa,Mode->Ab0,ready->Abi,free->Adn,noSelect->Abb
open Go.Instr renaming sureAddr->Adg,buildSlice->Acz,makeSlice->Acf,slice->Aav,sliceAt->Abo,index->Adf
open Go.Sem renaming run_bind->Aay,run_pure->Ac7
open Go.Result renaming andThen_ok->Aax,andThen->Aap
open Go.Oper renaming wp->Aca
open Nat renaming zero_add->Aby
open List renaming flatMap_cons->Abc,nil_append->Aaz,mem_append->Aa8,length_set->Aat,take_zero->Abk,replicate->Aad,mem_map->Abd,append_nil->Ab1,takeWhile_cons->Ab7,length_append->Aaf,range->Aak,cons_append->Aa2,range_succ->Ab5,map_append->Aar,append_assoc->Aa9,mem_cons->Aam,size_toArray->Abh,length_cons->Aaj,length_nil->Aa4,push_toArray->Abj,append_toArray->Aba,length_map->Aac,drop_zero->Aaw,map_cons->Acd,all_eq_true->Ac9,toList_toArray->Ac0,drop_drop->Ac4,getElem_cons_zero->Abw,length->κ
open Option.some renaming injEq->Aai
open Go.Addr.mk renaming injEq->Abq
open Go.Proofs.Tryz renaming prog->Aag,underlying60->Acs,underlying88->Aaq,underlying30->Aa0
open Bool renaming false_eq_true->Ab3,and_eq_true->Abe
open Int renaming toNat_natCast->Abp
open Go.Act renaming put->Aao
open Go.RowKit renaming intOf->Aau
open Go.Value.slice renaming injEq->Abg
open Go.Value renaming int->Ack
open Go.Op renaming equalIn->Ach
open Option renaming isSome_iff_exists->Adt
open Go.World renaming size_alloc->Aa3
open Array renaming replicate_succ->Aa6,replicate_zero->Aa7,toList_setIfInBounds->Abl
open Go.Fence renaming wide->Abv
open Go.Utf8 renaming decode->Abs
open Go.ByteArray renaming toList_eq->Adl
open UInt8 renaming ofNat->Ab6
namespace Go.Proofs.YtkpjfnbbkohciaaGreat
open Go.Proofs.Tryz Go.RowKit Go.Sort
variable{base g i j k m n:Nat}{rest:List Abn}{vp x:ah}{h:iM}{α:Type}{o:Abn}{b r:List aj}{e t ty:Aab}{acc:List (List aj)}{W w:af}{Q:Exit->Act->af->Prop}{p:au}{C:Array ah}{fn:Func}{l:List au}{E:List (Nat × Nat)}{a:Act}{ops:Array Abn}{K:Act->af->Prop}{P:bp}
section
variable {P:bp}
theorem gb{ops:Array Abn}{rest:List Abn}{op:Abn}{a:Act}{w:af}{Q:Act->Prop}(hw:Aaa op (Aa1 ops a.tmps)=true)(ty:Aab)(x:bU)(ho:op.op=.load ty x)(g off:Nat)(hx:a.eval x=pq g off)(C:Array ah)(hc:w.rangeAt g off C.toList)(d:eQ)(hu:P.underlying ty=some d)(hd:d.isRow=true)(hi:(P.info? ty).map (·.size)=some C.size)(h:Ade P ops w Q rest (a.put op.dst (.agg C))):Ade P ops w Q (op::rest) a:=by refine wpStill_step λK hK=>?_;rw[bI hw];unfold Oper.still Abt;have:=E6 (P:=P) w g off ty C.toList d hc hu hd ae;simp only[ho,hx,Instr.loadAt,Adg,Aay,Ac7,Aax,this];exact⟨rfl,hK _ jR⟩
def iJ{ops:Array Abn}{rest:List Abn}{op:Abn}{a:Act}{w:af}{Q:Act->Prop}(hw:Aaa op (Aa1 ops a.tmps)=true)(ty:Aab)(x:bU)(ho:op.op=.load ty x)(g:Nat)(hx:a.eval x=pz g)(t:Aab)(C:Array ah)(hb:aF w g t C)(d:eQ)(hu:P.underlying ty=some d)(hd:d.isRow=true)(hi:(P.info? ty).map (·.size)=some C.size)(h:Ade P ops w Q rest (a.put op.dst (.agg C))):Ade P ops w Q (op::rest) a:=gb hw ty x ho g 0 hx C hb.range d hu hd hi h
theorem C3{ops:Array Abn}{rest:List Abn}{op:Abn}{a:Act}{w:af}{Q:Act->Prop}(hw:Aaa op (Aa1 ops a.tmps)=true)(t:Aab)(parts:Array (Nat × bU))(ho:op.op=.build t parts)(C:Array ah)(hb:P.built t (parts.map λ(i,x)=>(i,a.eval x)).toList=some C)(h:Ade P ops w Q rest (a.put op.dst (.agg C))):Ade P ops w Q (op::rest) a:=by refine wpStill_step λK hK=>?_;rw[bI hw];unfold Oper.still Abt;simp only[ho,Aay,run_build w t _ C hb,Aax];exact⟨rfl,hK _ h⟩
theorem oA{ops:Array Abn}{Q:Exit->Act->af->Prop}{i:Nat}{o:Abn}{K:Act->af->Prop}{a:Act}{w:af}(hi:ops[i]?=some o)(hw:Aaa o (Aa1 ops a.tmps)=true)(h:o.wp P a w K Q):wpOp P ops Q i K a w:=FN
theorem iG{ops:Array Abn}{Q:Exit->Act->af->Prop}{md:Ab0}{fuel:Nat}{aZ:Array Bool}{a:Act}{w:af}(i:Nat)(o:Abn)(hr:Abi md ops aZ=[i])(hi:ops[i]?=some o)(hw:Aaa o (Aa1 ops a.tmps)=true)(h:o.wp P a w (wpAny P md ops Q fuel (aZ.setIfInBounds i true)) Q):wpAny P md ops Q (fuel+1) aZ a w:=uK hr aq (λj hj=>by simp at hj;subst hj;exact oA hi hw h)
theorem xh{ops:Array Abn}{Q:Exit->Act->af->Prop}{md:Ab0}{fuel:Nat}{aZ:Array Bool}{a:Act}{w:af}(i j:Nat)(o o':Abn)(hr:Abi md ops aZ=[i,j])(hi:ops[i]?=some o)(hj:ops[j]?=some o')(hw:Aaa o (Aa1 ops a.tmps)=true)(av:Aaa o' (Aa1 ops a.tmps)=true)(h:o.wp P a w (wpAny P md ops Q fuel (aZ.setIfInBounds i true)) Q)(h':o'.wp P a w (wpAny P md ops Q fuel (aZ.setIfInBounds j true)) Q):wpAny P md ops Q (fuel+1) aZ a w:=uK hr aq (λk hk=>by
  simp at hk;rcases hk with rfl|rfl
  ·exact oA hi hw h
  ·exact oA hj av h')
theorem pM{o:Abn}{a:Act}{w:af}{K:Act->af->Prop}{Q:Exit->Act->af->Prop}(ty:Aab)(x:bU)(ho:o.op=.load ty x)(ad:Adr)(hx:a.eval x=.pointer (some ad))(v:ah)(hc:w.cell? ad=some v)(hagg:(isAgg ty).run P w=.ok false w)(h:K (a.put o.dst v) w):o.wp P a w K Q:=by exact Np
theorem C5{o:Abn}{a:Act}{w:af}{K:Act->af->Prop}{Q:Exit->Act->af->Prop}(ty:Aab)(x y:bU)(ho:o.op=.store ty x y)(ad:Adr)(hx:a.eval x=.pointer (some ad))(v:ah)(hy:a.eval y=v)(hv:v.cells=#[v])(h1:v.oneCell'=true)(old:ah)(hc:w.cell? ad=some old)(hf:w.frozen? ad=false)(hs:(sizeOf ty).run P w=.ok 1 w)(h:K (a.put o.dst Aas) (w.setCell ad v)):o.wp P a w K Q:=by
 have aG:(store (ad.add 0) v).run P w=.ok () (w.setCell ad v):=by
  have e:ad.add 0=ad:=aA
  rw[e,run_store P w _ v _ h1,hc];simp[hf]
 have a6:(storeVar ty ad v).run P w=.ok () (w.setCell ad v):=by simp[storeVar,Aay,hs,hv,storeCells,aG]
 unfold Aca Abt;simp only[ho,hx,hy,Instr.storeAt,Adg,Aay,Ac7,Aax,a6];exact h
theorem C6{ops:Array Abn}{op:Abn}{a:Act}(hw:Aaa op (Aa1 ops a.tmps)=true)(t:Aab)(i0 i1:Nat)(x0 x1:bU)(ho:op.op=.build t #[(i0,x0),(i1,x1)])(v0 v1:ah)(h0:a.eval x0=v0)(h1:a.eval x1=v1)(C:Array ah)(hb:P.built t [(i0,v0),(i1,v1)]=some C):Yields P ops op (.agg C) a:=.inl ⟨hw,λw=>by
  unfold Abt;simp only[ho,Aay,(run_build (P:=P) w t (#[(i0,x0),(i1,x1)].map λ(i,x)=>(i,a.eval x)) C aa),Aax];rfl⟩
theorem JE{o:Abn}{a:Act}{w:af}{K:Act->af->Prop}{Q:Exit->Act->af->Prop}(ty:Aab)(x:bU)(ho:o.op=.load ty x)(g:Nat)(hx:a.eval x=pz g)(t:Aab)(C:Array ah)(hb:aF w g t C)(d:eQ)(hu:P.underlying ty=some d)(hd:d.isRow=true)(hi:(P.info? ty).map (·.size)=some C.size)(h:K (a.put o.dst (.agg C)) w):o.wp P a w K Q:=wp_load_mid ty x ho g 0 hx C.toList d hb.range hu hd ae ae
theorem yB{ops:Array Oper}{rest:List Oper}{op:Oper}{a:Act}{w:af}{Q:Exit->Act->af->Prop}(hgd:op.guard=none)(d s:bU)(dT sT:TypeId)(ho:op.op=.call {callee:=.builtin .copy,args:=#[d,s],argTypes:=#[dT,sT]})(elem:TypeId)(k:Nat)(hu:P.underlying dT=some (.slice elem))(aN:(P.info? elem).map (·.size)=some k)(g1 g2 n:Nat)(hd:a.eval d=cD g2 n n)(hs:a.eval s=cD g1 n n)(t:TypeId)(C1 C2:Array ah)(hb1:aF w g1 t C1)(hb2:aF w g2 t C2)(h1:C1.size=n*k)(h2:C2.size=n*k)(a1:C1.all (·.oneCell')=true)(h:∀w',aF w' g2 t C1->w.grownBy w' (some g2)->wpList P ops Q rest (a.put op.dst (goInt n)) w'):wpList P ops Q (op::rest) a w:=by
 refine h' hgd λK hK=>?_;have hl:=run_loadCells_list (P:=P) w ⟨g1,0,none⟩ C1.toList (λj v hj=>by rw[add_plain,Aby,hb1.cell];simpa using hj)
 have aG:=wD (P:=P) g2 0 t C1.toList 0 C2 w hb2 ab (λv hv=>(wE.1 a1) v aa);have ai:(C2.toList.take (0+0)++C1.toList++C2.toList.drop (0+0+κ C1.toList)).toArray=C1:=aQ
 rw[ai]at aG;cases hq:P.info? elem with
 | none=>simp_all
 | some i=>
  have hi:i.size=k:=aa
  have hlen:κ C1.toList=n*k:=ae
  rw[hlen]at hl;have hrun:(Builtin.copy_ #[dT,sT] op.type #[cD g2 n n,cD g1 n n]).run P w=.ok (goInt n) (w.setRow g2 C1):=by simp[Builtin.copy_,run_underlying hu,Builtin.lenOf,Builtin.firstCells,sizeOf,typeInfo,hq,hi,hl,aG]
  unfold Aca;simp[Abt,ho,resolve,invoke,builtin,hd,hs,hrun,Aap];exact hK _ _ (h _ (hb2.set C1) (cV w g2 C1))
end
def RI(l:List cS):(gy l).all (·.oneCell')=true:=Bh (sw.cu l)
theorem LR{l:List cS}(h:aF w g t (gy l))(i:Nat)(hi:i<κ l):w.rangeAt g (i*128) (aC l[i].val).toList:=λj v hj=>by
 rw[h.cell];rw[lo]at hj;have aa:j<128:=by have:=(kE.1 hj).1;rwa [sw.len]at this
 unfold gy;rw[Fg,sw.at l i hi j aa];exact hj
theorem WZ{f:α->List ah}(hw:hh f k)(l:List α)(i:Nat)(hi:i<κ l)(x:α):Abx (l.flatMap f) (i*k) (f x)=(l.set i x).flatMap f:=by
 unfold Abx;have h2:l.flatMap f=(l.take i).flatMap f++(f l[i]++(l.drop (i+1)).flatMap f):=by rw[<-Abc,<-td hi,<-gk,fQ]
 have h3:κ ((l.take i).flatMap f)=i*k:=by rw[hw.flat,ez];congr 1;omega
 rw[(MV .. |>.trans (bI hi)),gk,Abc,h2,h5 h3,Fk,h3,hw.len];rw[wF ae,Aaz];congr 2;rw[show i*k+k-i*k=κ (f l[i]) by rw[hw.len];omega,List.drop_left]
theorem Jf(l:List cS)(i:Nat)(hi:i<κ l)(s:cS):(Abx (gy l).toList (i*128) (aC s.val).toList).toArray=gy (l.set i s):=by rw[B',lo,WZ sw l i hi s];rfl
theorem om(s:cS):(aC s.val).size=128:=by grind [bX]
theorem dJ(s:cS):(prog.info? 60).map (·.size)=some (aC s.val).size:=by simp[om,dw]
theorem G1(l:List cS)(i:Nat)(hi:i<κ l)(s:cS):i*128+(aC s.val).size<=(gy l).size:=by grind [om,tG]
theorem JF{l:List C8}(h:ak q8 129 116 w base vp l)(i:Nat)(hi:i<κ l):∃g cap,vp=cD g (κ l) cap/\w.rangeAt g (i*129) (ls l[i]).toList:=by
 rcases h.2 with⟨_,h0⟩|⟨g,cap,cur,rfl,_⟩
 ·omega
 ·obtain⟨b,off,aa,_,_,hc⟩:=aH.get (h.row ww) ww ae;simp only[Aai,Abq]at aa;obtain⟨rfl,rfl,_⟩:=aa;exact⟨g,cap,rfl,λj v hj=>by have:=hc i hi j v cj;simpa using this⟩
theorem od(x:C8):(prog.info? 116).map (·.size)=some (ls x).size:=by rw[oB];kernel_rfl
def bz.nowAt(v:bz)(i:Int):cS:=if v.hasB i=true then v.cv.getD i.toNat ey else ey
def bz.j3(v:bz)(i:Int):Int:=if v.hasB i=true then(if v.dead=true then 42 else 0)else 41
def bz.mw(v:bz)(i:Int):cS:=if v.dead=true then ey else v.nowAt i
theorem ob(v:bz)(i:Int):v.hasB i=true↔0<=i/\i<κ v.aS:=by simp[bz.hasB]
theorem Dp(w:af)(h:iM)(v:bz)(D:Dv w h v)(i:Int)(hi:-9223372036854775808<=i/\i<=9223372036854775807):Aae Aag 166 #[pz h.d,i6 i] w λe w'=>e=rt #[.agg (aC (v.mw i).val),i6 (v.j3 i)]/\Dv w' h v.bb/\Touch (cM h) w w':=by
 have upa:=ai w (.cells (aC aM) 60);obtain⟨D1,B1⟩:=az (D.up upa) (aF.new w 60 (aC aM));obtain⟨CT,HS⟩:=aw (λW (DD:Dv W h v)=>wm W h v DD) (λW (DD:Dv W h v.bb)=>MO W h v.bb DD i hi);have HH:v.bb.hasB i=v.hasB i:=rfl;rw[HH]at HS;obtain⟨HL,HF,aR⟩:=aV (Touch.bP (F:=cM h) upa) (show ¬cM h w.heap.size from λhf=>uL _ (D.oU _ hf)) (ob v i);cases hb:v.hasB i
 case false=>
  rw[hb]at HS;have E:=an (show v.mw i=ey/\v.j3 i=41 by unfold bz.mw bz.j3 bz.nowAt;rw[hb];simp);go_in;go_wp2_with(refine dS rfl 60 rfl (aC aM) hP ?_);refine(CT _ D1).mono ?_;rintro e w2⟨rfl,D2,T2⟩;go_wp2_with fail;refine(HS _ D2).mono ?_;rintro e w3⟨rfl,rfl⟩;have aB:=an (B1.ax T2 HF);go_wp2_with(first
   | (refine k3 rfl 60 rfl (aC aM) ib ?_)
   | (refine ep rfl 60 (.tmp 4) (.tmp 12) rfl w.heap.size (aC aM) rfl rfl 60 (aC aM) aB dw rfl (dx _) ?_))
  intro w4 au hg4;go_wp2;refine bG (.tuple #[.agg (aC aM),i6 41]) au ⟨by rw[E.out.1,E.out.2];rfl,D2.ax (Touch.bg (F:=λb=>b=w.heap.size) hg4 (λk hk=>aQ)) (λb hb e=>HF (e ▸ hb)),?_⟩;exact Gv
 case true=>
  rw[hb]at HS;have aT:=aR.1 hb;cases ag:v.dead
  case true=>
   obtain⟨E,DD⟩:=aw (show v.mw i=ey/\v.j3 i=42 by unfold bz.mw bz.j3;rw[hb,ag];simp) (show v.bb.dead=true from ag);go_in;go_wp2_with(refine dS rfl 60 rfl (aC aM) hP ?_);refine(CT _ D1).mono ?_;rintro e w2⟨rfl,D2,T2⟩;go_wp2_with fail;refine(HS _ D2).mono ?_;rintro e w3⟨rfl,rfl⟩;have aB:=an (B1.ax T2 HF);have c5:=D2.cells.2.2.2.2.2;rw[DD.out]at c5;go_wp2_with(first
    | (refine k3 rfl 60 rfl (aC aM) ib ?_)
    | (refine ep rfl 60 (.tmp 4) (.tmp 17) rfl w.heap.size (aC aM) rfl rfl 60 (aC aM) aB dw rfl (dx _) ?_))
   intro w4 au hg4;go_wp2;refine bG (.tuple #[.agg (aC aM),i6 42]) au ⟨by rw[E.out.1,E.out.2];rfl,D2.ax (Touch.bg (F:=λb=>b=w.heap.size) hg4 (λk hk=>aQ)) (λb hb e=>HF (e ▸ hb)),?_⟩;exact Gv
  case false=>
   obtain⟨n,rfl⟩:∃n:Nat,i=n:=⟨i.toNat,ae⟩;have aU:n<κ v.aS:=ae
   have aa:n<κ v.cv:=by rw[D1.len];exact aU
   have E:=an (show v.mw n=v.cv[n]/\v.j3 n=0 by unfold bz.mw bz.j3 bz.nowAt;rw[hb,ag];simp only[Ab3,if_false,if_true,Abp,and_true];rw[s',h6 aa];rfl)
   obtain⟨DD,aK⟩:=aw (show v.bb.dead=false from ag) aa;have hm:=D1.max;go_in;go_wp2_with(refine dS rfl 60 rfl (aC aM) hP ?_);refine(CT _ D1).mono ?_;rintro e w2⟨rfl,D2,T2⟩;go_wp2_with fail;refine(HS _ D2).mono ?_;rintro e w3⟨rfl,rfl⟩;have aB:=an (B1.ax T2 HF);have c5:=D2.cells.2.2.2.2.2;rw[DD.out]at c5;have c1:=D2.cells.2.1;have aA:w2.cell? (ad h.d 1)=some (cD h.g2 (κ v.aS) (κ v.aS)):=c1;have b2:((n:Int)<(κ v.aS:Int))=True:=ab
   go_wp2_with(first
    | (refine iH rfl 60 (.tmp 23) rfl h.g2 (n*128) rfl _ (LR (l:=v.cv) D2.b2 n aK) _ Acs rfl (dJ _) ?_)
    | (refine ep rfl 60 (.tmp 4) (.tmp 24) rfl w.heap.size (aC (v.cv[n]'aK.out).val) rfl rfl 60 (aC aM) aB (dJ _) qC (dx _) ?_))
   intro w4 au hg4;go_wp2;refine bG (hi:=(dJ _)) (.tuple #[.agg (aC (v.cv[n]'aK.out).val),i6 0]) au ⟨by rw[E.out.1,E.out.2],D2.ax (Touch.bg (F:=λb=>b=w.heap.size) hg4 (λk hk=>aQ)) (λb hb e=>HF (e ▸ hb)),?_⟩;exact Gv
theorem pS(w:af)(t e:Aab)(z:ah)(k bytes:Nat)(C:Array ah)(ht:P.underlying t=some (.slice e))(hinfo:(P.info? e).map (λi=>(i.zero,i.size,i.bytes))=some (some z,k,bytes))(h0:0<k)(hk:k<=16777216)(hC:C.size=k):(Acz t 1 #[(0,.agg C)]).run P w=.ok (.slice (some ⟨w.heap.size,0,none⟩) 1 1) (w.alloc (.cells C e)):=by
 obtain⟨i,hi,hz0,hz1,_⟩:=jN hinfo;have hf:=Dx C ((Array.range k).map (z.cells[· % z.cells.size]!)) 0 ab;have hs:(Abx ((Array.range k).map (z.cells[· % z.cells.size]!)).toList 0 C.toList).toArray=C:=by unfold Abx;exact Oj
 exact U5
theorem tQ{op:Abn}(hgd:op.guard=none)(t e:Aab)(x:bU)(ho:op.op=.buildSlice t 1 #[(0,x)])(z:ah)(k bytes:Nat)(C:Array ah)(hx:a.eval x=.agg C)(ht:P.underlying t=some (.slice e))(hinfo:(P.info? e).map (λi=>(i.zero,i.size,i.bytes))=some (some z,k,bytes))(h0:0<k)(hk:k<=16777216)(hC:C.size=k)(h:Aal P ops Q rest (a.put op.dst (.slice (some ⟨w.heap.size,0,none⟩) 1 1)) (w.alloc (.cells C e))):Aal P ops Q (op::rest) a w:=by refine vh ?_;intro K hK;simp[ho,hx,(pS (P:=P) w t e z k bytes C ht hinfo h0 hk hC),Aap];exact hK _ _ h
theorem mO{op:Abn}(t e:Aab)(x:bU)(ho:op.op=.buildSlice t 1 #[(0,x)])(z:ah)(k bytes:Nat)(C:Array ah)(hx:a.eval x=.agg C)(ht:P.underlying t=some (.slice e))(hinfo:(P.info? e).map (λi=>(i.zero,i.size,i.bytes))=some (some z,k,bytes))(h0:0<k)(hk:k<=16777216)(hC:C.size=k)(h:K (a.put op.dst (cD w.heap.size 1 1)) (w.alloc (.cells C e))):op.wp P a w K Q:=by have hr:=pS (P:=P) w t e z k bytes C ht hinfo h0 hk hC;unfold Aca Abt;simp[ho,hx,hr,Aap];exact h
theorem nG{p:Tmp}(h:fn.results=#[.cell p ty])(tmps:Array ah)(P:bp)(w:af)(g:Nat)(t:Aab)(C:Array ah)(hp:tmps.getD p Aas=.pointer (some ⟨g,0,none⟩))(hb:aF w g t C)(d:eQ)(hd:P.underlying ty=some d)(hr:d.isRow=true)(hi:(P.info? ty).map (·.size)=some C.size):(results fn tmps).run P w=.ok (.agg C) w:=by
 simp only[results,h];have:=iF (P:=P) (w:=w) ty g t C hb d hd hr hi;have aI:tmps[p]?.getD Aas=.pointer (some ⟨g,0,none⟩):=aa
 simp[Aay,Aap,hp,aI,asAddr,this]
theorem aaQ(w:af)(b:Nat)(hb:b=w.heap.size)(x:C8):aH q8 (w.alloc (.cells (ls x) 116)) (.slice (some ⟨b,0,none⟩) 1 1) [x]:=aH.ew w b hb (ls x) 116 (0,0) [x] 1 rfl av (by simp[ls])
def bz.put(v:bz)(n:Nat)(s:cS):bz:={v with bQ:=v.bQ++[⟨n,s⟩],cv:=v.cv.set n s}
def bz.written(v:bz)(i:Int)(s:cS):bz:=if v.hasB i=true then(if v.hC=true then v.bb.eO.put i.toNat s else v.bb.eO)else v.bb
def bz.pN(v:bz)(i:Int):Int:=if v.hasB i=true then(if v.hC=true then 0 else 42)else 41
theorem pE(v:bz):v.eO.bQ=v.bQ/\v.eO.aS=v.aS/\v.eO.cv=v.cv:=by grind [bz.eO]
theorem Dv.push{w4 w6:af}{v:bz}{ob:Obj}(D:Dv w4 h v)(x:C8)(hx:x.loc<κ v.aS)(v':ah)(hown:ak q8 129 116 w6 0 v' (v.bQ++[x]))(hg:(w4.alloc ob).grownBy w6 h.vp.ownBlock):Dv (w6.setCell ⟨h.d,2,none⟩ v') {h with vp:=v'} {v with bQ:=v.bQ++[x]}:=by
 have D5:=D.up (ai w4 ob);have aa:=D5.dev.grown hg (jm av D5.dev D5.bQ);have hb1:=D5.b1.grown hg (jm av D5.b1 D5.bQ);obtain⟨hb2,G⟩:=az (D5.b2.grown hg (jm av D5.b2 D5.bQ)) (bZ aa 2 v');refine⟨aa.setCell 2 v',hb1.grown G (λe=>D.yF (dE e)),hb2.grown G (λe=>D.ui (dE e)),D.len,D.max,D.ne,hown.kept G (.inr (jm av aa hown)),λy hy=>?_,D.ops,D.left⟩;rcases Aa8.1 hy with hy|hy
 ·exact D.Bb y hy
 ·simp_all
theorem Dv.aaA{w w':af}{v:bz}(D:Dv w h v)(n:Nat)(s:cS)(hb:aF w' h.g2 60 (gy (v.cv.set n s)))(hg:w.grownBy w' (some h.g2)):Dv w' h {v with cv:=v.cv.set n s}:=⟨D.dev.grown hg (λe=>D.ui (dE e).symm),D.b1.grown hg (λe=>D.ne (dE e).symm),hb,by show(v.cv.set n s).length=_;rw[Aat];exact D.len,D.max,D.ne,D.bQ.kept hg (.inr (jm av D.b2 D.bQ)),D.Bb,D.ops,D.left⟩
theorem AA(w:af)(h:iM)(v:bz)(D:Dv w h v)(i:Int)(hi:-9223372036854775808<=i/\i<=9223372036854775807)(s:cS)(hr:κ v.bQ<=1000000)(hb:v.hasB i=true)(aG:v.hC=true):Aae Aag 217 #[pz h.d,i6 i,.agg (aC s.val)] w λe w'=>e=.returned (i6 (v.pN i))/\h0 w h (v.written i s) w':=by
 have upa:=ai w (.cells (aC s.val) 60);obtain⟨aP,aW,CT,aD,HS⟩:=eW (aF.new w 60 (aC s.val)) (D.up upa) (λW (DD:Dv W h v)=>wm W h v DD) (λW (DD:Dv W h v.bb)=>Ee W h v.bb DD) (λW (DD:Dv W h v.bb)=>MO W h v.bb DD i hi);have HH:v.bb.hasB i=v.hasB i:=rfl;rw[HH]at HS;have HP:v.bb.hC=v.hC:=rfl;rw[HP]at aD;obtain⟨HL,HF,aR⟩:=aV (Touch.bP (F:=cM h) upa) (show ¬cM h w.heap.size from λhf=>uL _ (D.oU _ hf)) (ob v i);rw[hb]at HS;have aT:=aR.1 hb;obtain⟨n,rfl⟩:∃n:Nat,i=n:=⟨i.toNat,ae⟩;have aU:n<κ v.aS:=ae
 rw[aG]at aD;obtain⟨aN,E⟩:=aw (show v.bb.eO.bQ=v.bQ/\v.bb.eO.aS=v.aS/\v.bb.eO.cv=v.cv from pE v.bb) (show v.written n s=v.bb.eO.put n s/\v.pN n=0 by unfold bz.written bz.pN;rw[hb,aG];simp);clear hb aG aT;go_in;go_wp2_with fail;refine(CT _ aW).mono ?_;rintro e w2⟨rfl,D2,T2⟩;obtain⟨aL,ay⟩:=aw D2 T2;go_wp2_with fail;refine(HS _ aL).mono ?_;rintro e w3⟨rfl,rfl⟩;go_wp2_with fail;refine(aD _ aL).mono ?_;rintro e w4⟨rfl,D4,T4⟩;obtain⟨a1,HB4,au⟩:=aV ((HL.trans ay (λn hn _=>hn)).trans T4 (λn hn _=>hn)) (((aP.ax ay HF)).ax T4 HF) D4;go_wp2;have ff:=(Up.refl w4).drew;obtain⟨D5,B5,T5⟩:=aV (au.up ff) (HB4.up ff) (a1.trans (Touch.bP (F:=cM h) ff) (λn hn _=>hn));obtain⟨pa,pc,ao⟩:=(D5.bQ.row ww).slice;have aE:=an ao;have c2:=D5.cells.2.2.1;rw[ao]at c2;clear ao;refine wp_region_any al ?_;change wpAny _ _ _ _ 13 _ _ w4.drew;generalize w4.drew=w5 at *;refine yz 0 (pz h.d) rfl ?_;refine yz 1 (pz h.d) rfl ?_;refine yz 2 (pz h.d) rfl ?_;refine yz 3 (pq h.d 2) rfl ?_;refine yz 5 (i6 (n:Int)) rfl ?_;simp only[Aao,fB];have aQ:=(ai w5 (.cells (ls ⟨n,s⟩) 116)).cell c2;have aO:κ v.bb.eO.bQ<=1000000:=by rw[aN.out.1];exact hr
 have ar:=ak.up D5.bQ (ai w5 (.cells (ls ⟨n,s⟩) 116));rw[aE.out]at ar;have RW:=aaQ w5 w5.heap.size rfl ⟨n,s⟩;refine xh 4 6 _ _ al rfl rfl rfl rfl ?_ ?_;refine pM 112 (.tmp 19) rfl ⟨h.d,2,none⟩ rfl _ c2 al ?_;refine iG 6 _ al rfl rfl ?_;refine Ol ?_;refine Om ?_;rotate_left;refine Ol ?_;refine xh 4 8 _ _ al rfl rfl rfl rfl ?_ ?_;refine pM 112 (.tmp 19) rfl ⟨h.d,2,none⟩ rfl _ c2 al ?_;refine Om ?_;rotate_left;refine mO 112 116 (.tmp 23) rfl _ 129 136 (ls ⟨n,s⟩) rfl underlying112 uA ae ae (oB _) ?_;refine iG 4 _ al rfl rfl ?_;refine pM 112 (.tmp 19) rfl ⟨h.d,2,none⟩ rfl _ aQ al ?_;all_goals
  simp only[Aao,fB];refine iG 9 _ al rfl rfl ?_;refine q' ww (.tmp 20) (.tmp 24) 112 rfl 0 116 _ 136 underlying112 uA (oB _) (.slice pa (κ v.bb.eO.bQ) pc) v.bb.eO.bQ rfl ar (cD w5.heap.size 1 1) [⟨n,s⟩] rfl RW ab ab (bT _) ?_;intro v' w6 aj aH _ az;refine yz 10 (pz h.d) rfl ?_;refine yz 11 (pq h.d 2) rfl ?_;simp only[Aao,fB];refine iG 12 _ al rfl rfl ?_;have aq:=aH;rw[<-aE.out]at aq az;have aK:=D5.up (ai w5 (.cells (ls ⟨n,s⟩) 116));have ag:=aK.dev.grown aq (jm av aK.dev aK.bQ);obtain⟨D7,T7⟩:=aw (Dv.push D5 ⟨n,s⟩ (show n<κ v.bb.eO.aS by rw[aN.out.2.1];exact aU) v' aj aq) ((T5.trans (Touch.bP (F:=cM h) (ai w5 (.cells (ls ⟨n,s⟩) 116))) (λn hn _=>hn)).trans ((Touch.bg (F:=cM h) aq (λk hk=>.inr (.inr (.inr hk)))).trans (Touch.bg (F:=cM h) (bZ ag 2 v') (λk hk=>FW)) (λn hn _=>hn)) (λn hn _=>hn));have W7:=an (show ∀b,v'.ownBlock=some b->h.vp.ownBlock=some b\/w.heap.size<=b from λb hb=>by
   rcases az with hh|⟨g,hh,aI⟩
   ·exact .inl (by rw[<-hh];exact hb)
   ·rw[hb]at hh;cases hh;exact .inr (bK (bK T5.size (ai w5 _).size) aI))
  have S7:=an (((B5.up (ai w5 (.cells (ls ⟨n,s⟩) 116))).grown aq (jm av (B5.up (ai w5 (.cells (ls ⟨n,s⟩) 116))) aK.bQ)).grown (bZ ag 2 v') (λe=>HF (.inl (dE e).symm)));have oc:v'.cells=#[v']/\v'.oneCell'=true:=by obtain⟨va,vc,rfl⟩:=(aj.row ww).slice;exact⟨rfl,rfl⟩
  refine C5 112 (.tmp 27) (.tmp 25) rfl ⟨h.d,2,none⟩ rfl v' rfl oc.1 oc.2 h.vp (ag.cell 2) (ag.free 2) al ?_;refine⟨al,?_⟩;simp only[Aao];clear c2 aQ oc;generalize w6.setCell ⟨h.d,2,none⟩ v'=w7 at *;go_wp2;have ff:=(Up.refl w7).drew;obtain⟨D8,S8,T8⟩:=aV (D7.up ff) (S7.up ff) (T7.trans (Touch.bP (F:=cM h) ff) (λn hn _=>hn));have c1:=D8.cells.2.1;have aA:w7.drew.cell? (ad h.d 1)=some (cD h.g2 (κ v.bb.eO.aS) (κ v.bb.eO.aS)):=c1;rw[aN.out.2.1]at aA;have hm:=D8.max;have aB:κ v.aS<=1024:=by rw[<-aN.out.2.1];exact hm
  clear c1 hm;refine wJ 6 al al ?_;refine rK ?_;change Ade _ _ w7.drew (λa'=>Aal _ _ _ _ a' w7.drew) _ _;generalize w7.drew=w8 at *;repeat(first
   | (refine iJ rfl 60 (.tmp 5) rfl w.heap.size rfl 60 _ S8 _ Acs rfl (dJ s) ?_)
   | still_step)
  refine hB ?_;have aa:n<κ v.bb.eO.cv:=by have:=D8.len;rw[show({v.bb.eO with bQ:=v.bb.eO.bQ++[⟨n,s⟩]}:bz).cv=v.bb.eO.cv from rfl]at this;rw[this];show n<κ v.bb.eO.aS;rw[aN.out.2.1];exact aU
  obtain⟨FT,SS,G2⟩:=aV (G1 v.bb.eO.cv n aa s) (Jf v.bb.eO.cv n aa s) (show aF w8 h.g2 60 (gy v.bb.eO.cv)from D8.b2);have b2:((n:Int)<(κ v.aS:Int))=True:=ab
  clear aa;go_wp2_with(refine ch rfl 60 (.tmp 34) (.tmp 33) rfl h.g2 (n*128) (aC s.val) rfl rfl 60 _ G2 (dJ s) FT (dx _) ?_);intro w9 aM aJ;rw[SS.out]at aM;obtain⟨D9,T9⟩:=aw (Dv.aaA D8 n s aM aJ) (T8.trans (Touch.bg (F:=cM h) aJ (λk hk=>by cases hk;exact .inr (.inr (.inl rfl)))) (λn hn _=>hn));clear aA;go_wp2;go_ret;exact⟨by rw[E.out.2];rfl,v',by rw[E.out.1];exact D9,T9,W7⟩
def dj(l:List cS)(ws:List C8):List cS:=ws.foldl (λl x=>l.set x.loc x.s) l
theorem nJ(ws:List C8):∀l:List cS,κ (dj l ws)=κ l:=by
 induction ws with
 | nil=>intro l;rfl
 | cons x ws ih=>intro l;show(dj (l.set x.loc x.s) ws).length=_;rw[ih,Aat]
theorem HA(l:List cS)(ws:List C8)(k:Nat)(hk:k<κ ws):dj l (ws.take (k+1))=(dj l (ws.take k)).set ws[k].loc ws[k].s:=by unfold dj;rw[et hk,Fl];rfl
def bz.cP(v:bz):bz:=if v.hC=true then {v.bb.eO with aS:=dj v.aS v.bQ,bQ:=[]} else v.bb.eO
def bz.qc(v:bz):Int:=if v.hC=true then 0 else 42
theorem CE:∀W:af,(Acj 116).run Aag W=.ok (.agg (ls Pt)) W:=λW=>by obtain⟨i,hi,hz0,_,_⟩:=jN uA;simp[Acj,typeInfo,hi,hz0]
theorem Dv.RL{w w':af}{v:bz}(D:Dv w h v)(n:Nat)(s:cS)(hb:aF w' h.g1 60 (gy (v.aS.set n s)))(hg:w.grownBy w' (some h.g1)):Dv w' h {v with aS:=v.aS.set n s}:=by
 have e:Aw h {v with aS:=v.aS.set n s}=Aw h v:=by simp[Aw]
 exact⟨by rw[e];exact D.dev.grown hg (λe=>D.yF (dE e).symm),hb,D.b2.grown hg (λe=>D.ne (dE e)),by show _=κ (v.aS.set n s);rw[Aat];exact D.len,by show(v.aS.set n s).length<=_;rw[Aat];exact D.max,D.ne,D.bQ.kept hg (.inr (jm av D.b1 D.bQ)),λx hx=>by show x.loc<κ (v.aS.set n s);rw[Aat];exact D.Bb x hx,D.ops,D.left⟩
theorem Dv.clear{v:bz}(D:Dv w h v):Dv (w.setCell ⟨h.d,2,none⟩ (nl)) {h with vp:=nl} {v with bQ:=[]}:=by have G:=bZ D.dev 2 (nl);exact⟨D.dev.setCell 2 _,D.b1.grown G (λe=>D.yF (dE e)),D.b2.grown G (λe=>D.ui (dE e)),D.len,D.max,D.ne,ak.nil _ _ _ _ _,(λx hx=>aa),D.ops,D.left⟩
theorem AZ(x:C8):(ls Pt).size=(ls x).size:=by simp[oB]
theorem W2{b:Nat}{x:C8}(h:aF w b t (ls x)):w.cell? (ad b 0)=some (i6 (x.loc:Int))/\w.rangeAt b 1 (aC x.s.val).toList:=by refine⟨jS,λj v hj=>?_⟩;rw[h.cell];grind [lo,ls,q8]
theorem Ax(w:af)(h:iM)(v:bz)(D:Dv w h v)(hr:κ v.bQ<=1000000)(aG:v.hC=true):Aae Aag 216 #[pz h.d] w λe w'=>e=.returned (i6 v.qc)/\h0 w h v.cP w':=by
 obtain⟨CT,aD⟩:=aw (wm w h v D) (λW (DD:Dv W h v.bb)=>Ee W h v.bb DD);have HP:v.bb.hC=v.hC:=rfl;rw[HP]at aD;rw[aG]at aD;obtain⟨aN,E⟩:=aw (pE v.bb) (show v.cP={v.bb.eO with aS:=dj v.aS v.bQ,bQ:=[]}/\v.qc=0 by unfold bz.cP bz.qc;rw[aG];simp);go_in;go_wp2_with fail;refine CT.mono ?_;rintro e w2⟨rfl,D2,T2⟩;obtain⟨aL,ay⟩:=aw D2 T2;go_wp2_with fail;refine(aD _ aL).mono ?_;rintro e w4⟨rfl,D4,T4⟩;obtain⟨au,a1⟩:=aw D4 (ay.trans T4 (λn hn _=>hn));obtain⟨pa,pc,ao⟩:=(au.bQ.row ww).slice;have c2:=au.cells.2.2.1;rw[ao,aN.out.1]at c2;have aE:=an ao;have aK:κ v.bb.bQ<=1000000:=hr;obtain⟨P,hP⟩:=bE (v.bb.eO);obtain⟨EP,ag⟩:=aw (show P.bQ=v.bQ/\P.aS=v.aS/\P.cv=v.cv by rw[hP];exact aN) hP;rw[<-hP]at au;have al:w4.cell? (ad h.d 2)=some (.slice pa (κ v.bQ) pc):=c2;have ar:κ v.bQ<=1000000:=hr;go_wp2;go_loopw [15] (λi wr=>∃k:Nat,k<=κ v.bQ/\i=i6 k/\Dv wr h {P with aS:=dj v.aS (v.bQ.take k)}/\Touch (cM h) w wr) (λi _=>κ v.bQ-(Aau i).toNat)
 case atStart=>exact⟨0,bT _,rfl,by have:=au.out;rw[show({P with aS:=dj v.aS (v.bQ.take 0)}:bz)=P from by rw[Abk];show({P with aS:=v.aS}:bz)=P;rw[<-EP.out.2.1]];exact this,a1⟩
 case round=>
  obtain⟨k,hk,rfl,DR,TR⟩:=hrel;obtain⟨HDR,HTR⟩:=aw DR TR;clear DR TR al;by_cases hlt:k<κ v.bQ
  ·have ak:k<κ P.bQ:=by rw[EP.out.1];exact hlt
   have own:=HDR.bQ;obtain⟨g,cap,hg,aj⟩:=JF (l:=P.bQ) own k ak;have ao:=aE.out;have aI:(.slice (some ⟨g,0,none⟩) (κ P.bQ) cap:ah)=.slice pa (κ v.bb.eO.bQ) pc:=aQ
   simp only[Abg]at aI;obtain⟨rfl,_,rfl⟩:=aI;have RG:=an aj;have loc:=HDR.Bb P.bQ[k] (cw ak);have SN:=an (HA v.aS v.bQ k hlt);have ae:P.bQ[k]=v.bQ[k]:=by simp only[EP.out.1]
   rw[ae]at RG loc;have aT:κ (dj v.aS (v.bQ.take k))=κ v.aS:=nJ _ _;have HAL:=an aT;have ax:v.bQ[k].loc<κ v.aS:=di
   have b2:((k:Int)<(κ v.bQ:Int))=True:=ab
   have s4:κ v.aS<=1024:=by have:=HDR.max;rw[show({P with aS:=dj v.aS (v.bQ.take k)}:bz).aS=dj v.aS (v.bQ.take k)from rfl,aT]at this;exact this
   clear own aj hg ao ae ak loc aT;generalize v.bQ[k]=x at *;have upa:=ai wr (.cells (ls x) 116);refine Vu ?_;intro ff D5 X5 T5 av c0;have aa:(wr.alloc (.cells (ls x) 116)).drew.cell? (ad h.d 0)=some (.slice (some ⟨h.g1,0,none⟩) (κ (dj v.aS (v.bQ.take k))) (κ (dj v.aS (v.bQ.take k)))):=c0;rw[HAL.out]at aa;clear c0 upa ff;go_wp2_with(first
    | (refine iH rfl 116 (.tmp 17) rfl g (k*129) rfl (ls x) RG _ underlying116 rfl (od x) ?_)
    | (refine dS rfl 116 rfl (ls Pt) CE ?_)
    | (refine iI (w:=wr) rfl 116 (.tmp 4) (.tmp 18) rfl wr.heap.size rfl (ls x) rfl rfl 116 (ls Pt) (od x) (AZ x) (Hp x) ?_))
   refine On ?_;refine OM ?_;generalize(wr.alloc (.cells (ls x) 116)).drew=w5 at *;simp only[Aao,fB];repeat(first
    | (refine gb rfl 60 (.tmp 25) rfl wr.heap.size 1 rfl _ X5.2 _ Acs rfl (dJ _) ?_)
    | still_step)
   refine hB ?_;have hxl:x.loc<κ (dj v.aS (v.bQ.take k)):=di
   have b3:((x.loc:Int)<(κ v.aS:Int))=True:=ab
   go_wp2_with(refine ch rfl 60 (.tmp 27) (.tmp 26) rfl h.g1 (x.loc*128) (aC x.s.val) rfl rfl 60 _ D5.b1 (dJ x.s) (G1 _ x.loc hxl x.s) (dx _) ?_);refine M7 ?_;clear aa;intro w6 D6 T6;go_wp2_with fail;refine⟨⟨k+1,hlt,aq,by rw[SN.out];exact D6,T6⟩,?_⟩;exact np
  ·have hkl:k=κ v.bQ:=by omega
   subst hkl;have b2:((κ v.bQ:Int)<(κ v.bQ:Int))=False:=aq
   obtain⟨c2,ao⟩:=az HDR.cells.2.2.1 aE.out;rw[ao]at c2;have f2:=HDR.dev.free 2;clear ao;go_wp2_with fail;go_ret;have E2:({P with aS:=dj v.aS (v.bQ.take (κ v.bQ)),bQ:=[]}:bz)=v.cP:=by rw[E.out.1,fF,ag.out]
   exact⟨by rw[E.out.2];rfl,nl,by rw[<-E2];exact(Dv.clear HDR),(HTR.trans (jq HDR 2 (nl)) (λn hn _=>hn)),λb hb=>by cases hb⟩
def Ab(b:Bool):ah:=.bool b
def fO(ks:List Bool):Nat->List C8->List C8
 | _,[]=>[]
 | n,x::l=>if ks.getD n false=true then x::fO ks (n+1) l else fO ks (n+1) l
theorem EU(ks:List Bool)(l m:List C8):∀n,fO ks n (l++m)=fO ks n l++fO ks (n+κ l) m:=by
 induction l with
 | nil=>intro n;rfl
 | cons x l ih=>grind [fO]
theorem KI(ks:List Bool)(l:List C8)(k:Nat)(hk:k<κ l):fO ks 0 (l.take (k+1))=fO ks 0 (l.take k)++(if ks.getD k false=true then [l[k]] else []):=by rw[et hk,EU,Aby,ez,Nat.min_eq_left ae];rfl
def bz.sU(v:bz)(ks:List Bool):List cS:=dj v.aS (fO ks 0 v.bQ)
def bz.crashed(v:bz)(ks:List Bool):bz:={v with aS:=v.sU ks,cv:=v.sU ks,bQ:=[],left:=-1,dead:=false}
theorem Dv.copied{w w':af}{v:bz}(D:Dv w h v)(hb:aF w' h.g2 60 (gy v.aS))(hg:w.grownBy w' (some h.g2)):Dv w' h {v with cv:=v.aS}:=⟨D.dev.grown hg (λe=>D.ui (dE e).symm),D.b1.grown hg (λe=>D.ne (dE e).symm),hb,rfl,D.max,D.ne,D.bQ.kept hg (.inr (jm av D.b2 D.bQ)),D.Bb,D.ops,D.left⟩
theorem H4(hn:cM {h with vp:=.slice none 0 0} n):cM h n:=by
 rcases hn with hn|hn|hn|hn
 ·exact .inl hn
 ·exact .inr (.inl hn)
 ·exact .inr (.inr (.inl hn))
 ·cases hn
theorem Kg(w:af)(h:iM)(v:bz)(D:Dv w h v)(hr:κ v.bQ<=1000000)(vk:ah)(ks:List Bool)(aB:∀w',Touch (cM h) w w'->aD Ab w' vk ks):Aae Aag 19 #[pz h.d,vk] w λe w'=>e=rt #[]/\h0 w h (v.crashed ks) w':=by
 obtain⟨au,HK⟩:=aw D aB;have hkl:κ ks<=9223372036854775807:=(HK w (Touch.refl _ _)).length_le;obtain⟨ka,kc,aJ⟩:=(HK w (Touch.refl _ _)).slice;subst aJ;obtain⟨pa,pc,ao⟩:=(au.bQ.row ww).slice;have c2:=au.cells.2.2.1;rw[ao]at c2;have aE:=an ao;obtain⟨N,hN⟩:=bE (κ v.bQ);rw[<-hN]at c2 hr;have HN:=an hN;clear hN;go_in;go_wp2_with fail;go_loopw [11] (λi wr=>∃k:Nat,k<=N/\i=i6 k/\Dv wr h {v with aS:=dj v.aS (fO ks 0 (v.bQ.take k))}/\Touch (cM h) w wr) (λi _=>N-(Aau i).toNat)
 case atStart=>exact⟨0,bT _,rfl,au,Touch.refl _ _⟩
 case round=>
  obtain⟨k,hk,rfl,DR,TR⟩:=hrel;obtain⟨HDR,HTR⟩:=aw DR TR;clear DR TR c2;by_cases hlt:k<N
  ·have ak:k<κ v.bQ:=by rw[<-HN.out];exact hlt
   obtain⟨g,cap,hg,aj⟩:=JF (l:=v.bQ) HDR.bQ k ak;have ao:=aE.out;have aI:(.slice (some ⟨g,0,none⟩) (κ v.bQ) cap:ah)=.slice pa (κ v.bQ) pc:=hg.symm.trans ao;simp only[Abg]at aI;obtain⟨rfl,_,rfl⟩:=aI;have RG:=an aj;have loc:=HDR.Bb v.bQ[k] (cw ak);have SN:=an ((λk=>KI ks v.bQ k) k ak);have aT:κ (dj v.aS (fO ks 0 (v.bQ.take k)))=κ v.aS:=nJ _ _;have HAL:=an aT;have ax:v.bQ[k].loc<κ v.aS:=by rw[<-aT];exact loc
   have b2:((k:Int)<(N:Int))=True:=ab
   have s4:κ v.aS<=1024:=by have:=HDR.max;rw[show({v with aS:=dj v.aS (fO ks 0 (v.bQ.take k))}:bz).aS=dj v.aS (fO ks 0 (v.bQ.take k))from rfl,aT]at this;exact this
   clear aj hg ao loc aT;generalize v.bQ[k]=x at *;clear ak;have upa:=ai wr (.cells (ls x) 116);have T1:=an (HTR.trans (Touch.bP (F:=cM h) upa) (λn hn _=>hn));obtain⟨KK,D1⟩:=aw (HK _ T1) (HDR.up upa);by_cases hq:k<κ ks
   ·cases aG:ks[k]
    case true=>
     have kc:=KK.out;obtain⟨kb,ko,rfl,_,ar⟩:=cg kc rfl ae;have ck:(wr.alloc (.cells (ls x) 116)).cell? (ad kb (ko+k))=some (.bool true):=by rw[ar k hq,aG];rfl
     have b5:((k:Int)<(κ ks:Int))=True:=ab
     clear kc ar;have ay:=an (show fO ks 0 (v.bQ.take (k+1))=fO ks 0 (v.bQ.take k)++[x] by rw[SN.out,s',h6 hq,aG];simp);refine Vu ?_;intro ff D5 X5 T5 av c0;have aa:(wr.alloc (.cells (ls x) 116)).drew.cell? (ad h.d 0)=some (.slice (some ⟨h.g1,0,none⟩) (κ (dj v.aS (fO ks 0 (v.bQ.take k)))) (κ (dj v.aS (fO ks 0 (v.bQ.take k))))):=c0;rw[HAL.out]at aa;clear c0 upa ff;go_wp2_with(first
      | (refine iH rfl 116 (.tmp 14) rfl g (k*129) rfl (ls x) RG _ underlying116 rfl (od x) ?_)
      | (refine dS rfl 116 rfl (ls Pt) CE ?_)
      | (refine iI (w:=wr) rfl 116 (.tmp 5) (.tmp 15) rfl wr.heap.size rfl (ls x) rfl rfl 116 (ls Pt) (od x) (AZ x) (Hp x) ?_))
     refine Oo ?_;refine OM ?_;generalize(wr.alloc (.cells (ls x) 116)).drew=w5 at *;try simp only[Aao,fB]
     repeat(first
      | (refine gb rfl 60 (.tmp 32) rfl wr.heap.size 1 rfl _ X5.2 _ Acs rfl (dJ _) ?_)
      | still_step)
     refine hB ?_;have hxl:x.loc<κ (dj v.aS (fO ks 0 (v.bQ.take k))):=by rw[HAL.out];exact ax
     have b3:((x.loc:Int)<(κ v.aS:Int))=True:=ab
     go_wp2_with(refine ch rfl 60 (.tmp 34) (.tmp 33) rfl h.g1 (x.loc*128) (aC x.s.val) rfl rfl 60 _ D5.b1 (dJ x.s) (G1 _ x.loc hxl x.s) (dx _) ?_);refine M7 ?_;clear aa;intro w6 D6 T6;go_wp2_with fail;refine⟨⟨k+1,hlt,aq,by rw[ay.out,show dj v.aS (fO ks 0 (v.bQ.take k)++[x])=(dj v.aS (fO ks 0 (v.bQ.take k))).set x.loc x.s from by unfold dj;rw[Fl];rfl];exact D6,T6⟩,?_⟩;exact np
    case false=>
     have kc:=KK.out;obtain⟨kb,ko,rfl,_,ar⟩:=cg kc rfl ae;have ck:(wr.alloc (.cells (ls x) 116)).cell? (ad kb (ko+k))=some (.bool false):=by rw[ar k hq,aG];rfl
     have b5:((k:Int)<(κ ks:Int))=True:=ab
     clear kc ar;have ay:=an (show fO ks 0 (v.bQ.take (k+1))=fO ks 0 (v.bQ.take k)by rw[SN.out,s',h6 hq,aG];simp);exact M8
   ·have b5:((k:Int)<(κ ks:Int))=False:=by simp;omega
    have ay:=an (show fO ks 0 (v.bQ.take (k+1))=fO ks 0 (v.bQ.take k)by rw[SN.out,s',tc ae];simp);exact M8
  ·obtain rfl:k=N:=by omega
   have b2:((k:Int)<(k:Int))=False:=aq
   obtain⟨c2,ao⟩:=az HDR.cells.2.2.1 aE.out;rw[ao]at c2;have f2:=HDR.dev.free 2;obtain⟨DC,TC,HAL,E2⟩:=bW (Dv.clear HDR) (HTR.trans (jq HDR 2 (nl)) (λn hn _=>hn)) (show(dj v.aS (fO ks 0 (v.bQ.take k))).length=κ v.aS from nJ _ _) (show dj v.aS (fO ks 0 (v.bQ.take k))=v.sU ks by rw[HN.out,fF];rfl);clear ao;go_wp2_with fail;generalize wr.setCell ⟨h.d,2,none⟩ (nl)=w5 at *;have ff:Up w5 w5.drew:=(Up.refl w5).drew;obtain⟨D6,T6⟩:=aw (DC.up ff) (TC.trans (Touch.bP (F:=cM h) ff) (λn hn _=>hn));have c0:w5.drew.cell? (ad h.d 0)=some (.slice (some ⟨h.g1,0,none⟩) (κ (dj v.aS (fO ks 0 (v.bQ.take k)))) (κ (dj v.aS (fO ks 0 (v.bQ.take k))))):=D6.cells.1;have c1:w5.drew.cell? (ad h.d 1)=some (.slice (some ⟨h.g2,0,none⟩) (κ (dj v.aS (fO ks 0 (v.bQ.take k)))) (κ (dj v.aS (fO ks 0 (v.bQ.take k))))):=D6.cells.2.1;rw[HAL.out]at c0 c1;clear ff c2 f2;refine Oo ?_;change Ade _ _ w5.drew (λa'=>Aal _ _ _ _ a' w5.drew) _ _;generalize w5.drew=w6 at *;repeat still_step
   refine hB ?_;go_wp2_with(refine yB rfl (.tmp 42) (.tmp 46) 111 111 rfl 60 128 underlying111 al h.g1 h.g2 (κ v.aS) rfl rfl 60 _ _ D6.b1 D6.b2 (by rw[tG,HAL.out]) (by rw[tG,au.out.len]) (RI _) ?_);intro w7 ag aK;have D7:=an (Dv.copied D6 ag aK);clear ag c0 c1;have D8:=an (Dv.field D7 4 (i6 (-1)) (v':={v with aS:=v.sU ks,cv:=v.sU ks,bQ:=[],left:=-1}) (by rw[E2.out];rfl) (by rw[E2.out]) (by rw[E2.out]) rfl au.ops KO);obtain⟨c4,f4,c5,f5⟩:=iv D7.cells.2.2.2.2.1 (D7.dev.free 4) D8.cells.2.2.2.2.2 (D8.dev.free 5);go_wp2_with fail;go_end0;exact⟨rfl,nl,(Dv.field D8 5 (.bool false) (v':=v.crashed ks) rfl rfl rfl rfl au.ops KO),(((T6.trans (Touch.bg (F:=cM h) aK (λj hj=>by cases hj;exact .inr (.inr (.inl rfl)))) (λn hn _=>hn)).trans (jq D7 4 (i6 (-1))) (λn hn _=>H4 hn)).trans (jq D8 5 (.bool false)) (λn hn _=>H4 hn)),λb hb=>by cases hb⟩
theorem B8(t e:Aab)(z:ah)(k bytes:Nat)(ht:P.underlying t=some (.slice e))(hinfo:(P.info? e).map (λi=>(i.zero,i.size,i.bytes))=some (some z,k,bytes))(c:Nat)(hc:bytes*c<=281474976710656)(hm:c<=9223372036854775807)(w:af):(Acf t (.int .i64 (c:Int)) (.int .i64 (c:Int))).run P w=.ok (.slice (some ⟨w.heap.size,0,none⟩) c c) (w.alloc (.cells (Acv z.cells (c*k)) e)):=by refine NR ?_;intro i hi hz0 hz1 ar hb this;simp_all
theorem Jc:qT ey=Aad 128 (.int .u8 0):=al
theorem rL(n:Nat):Acv (aC aM) (n*128)=gy (Aad n ey):=by
 apply h3.1;rw[B',List.flatMap_replicate,Jc,List.flatten_replicate_replicate];rw[List.eq_replicate_iff];refine⟨by rw[Fm,wB],λb hb=>?_⟩;unfold Acv at hb;simp only[Array.toList_map,Abd]at hb;obtain⟨j,_,rfl⟩:=hb;have hs:(aC aM).size=128:=aA
 have hj:j%(aC aM).size<(aC aM).size:=Nat.mod_lt _ ae;rw[getElem!_pos (aC aM) _ hj];have hm:(aC aM)[j%(aC aM).size]∈(aC aM).toList:=aq
 rw[show(aC aM).toList=qT ey from lo ey,Jc]at hm;simp_all
theorem rr:(prog.info? 60).map (λi=>(i.zero,i.size,i.bytes))=some (some (.agg (aC aM)),128,128):=al
def QY(n:Nat):bz:=⟨Aad n ey,Aad n ey,[],0,-1,false⟩
section
variable {P:bp}
theorem sa{op:Abn}{a:Act}{w:af}{K:Act->af->Prop}{Q:Exit->Act->af->Prop}(t:Aab)(x y:bU)(ho:op.op=.makeSlice t x y)(e:Aab)(z:ah)(k bytes:Nat)(ht:P.underlying t=some (.slice e))(hinfo:(P.info? e).map (λi=>(i.zero,i.size,i.bytes))=some (some z,k,bytes))(c:Nat)(hc:bytes*c<=281474976710656)(hm:c<=9223372036854775807)(hx:a.eval x=i6 (c:Int))(hy:a.eval y=i6 (c:Int))(C:Array ah)(hC:Acv z.cells (c*k)=C)(h:K (a.put op.dst (cD w.heap.size c c)) (w.alloc (.cells C e))):op.wp P a w K Q:=by have hr:=B8 (P:=P) t e z k _ ht hinfo c hc hm w;rw[hC]at hr;unfold Aca Abt;simp only[ho,hx,hy,Aay,hr,Aax];exact h
theorem aaP{op:Abn}{a:Act}{w:af}{K:Act->af->Prop}{Q:Exit->Act->af->Prop}(t:Aab)(x:bU)(ho:op.op=.box t x)(C:Array ah)(hx:a.eval x=.agg C)(h:K (a.put op.dst (pz w.heap.size)) (w.alloc (.cells C t))):op.wp P a w K Q:=by unfold Aca Abt;simp[ho,hx,Instr.box,Value.cells,Aap];exact h
end
theorem Df(v0 v1:ah)(h0:v0.cells=#[v0])(h1:v1.cells=#[v1]):prog.built 114 [(0,v0),(1,v1),(4,.int .i64 (-1))]=some #[v0,v1,.slice none 0 0,.int .i64 0,.int .i64 (-1),.bool false]:=by obtain⟨i,hi,hz0,_,_⟩:=jN (show(prog.info? 114).map (λi=>(i.zero,i.size,i.bytes))=some (some (.agg #[.slice none 0 0,.slice none 0 0,.slice none 0 0,.int .i64 0,.int .i64 0,.bool false]),6,96)from aA);unfold Program.built;rw[hi,underlying114];simp only[hz0];rw[show(List.mapM (λ(f:Field)=>(prog.info? f.type).map λi=>(f.offset,i.size)) _:Option (List (Nat × Nat)))=some [(0,1),(1,1),(2,1),(3,1),(4,1),(5,1)] from aA];have ha:∀C,(Value.agg C).cells=C:=λ_=>rfl;simp[Instr.fill,h0,h1,ha,show(Ack .i64 (-1)).cells=#[.int .i64 (-1)] from rfl]
theorem XC(w5:af)(n:Nat)(hn:n<=1024)(g1 g2 d:Nat)(hb1:aF w5 g1 60 (gy (Aad n ey)))(hb2:aF w5 g2 60 (gy (Aad n ey)))(hne:g1≠g2)(hd:aF w5 d 114 #[.slice (some ⟨g1,0,none⟩) n n,.slice (some ⟨g2,0,none⟩) n n,.slice none 0 0,.int .i64 0,.int .i64 (-1),.bool false]):Dv w5 ⟨d,g1,g2,.slice none 0 0⟩ (QY n):=by
 have e:Aw ⟨d,g1,g2,.slice none 0 0⟩ (QY n)=#[.slice (some ⟨g1,0,none⟩) n n,.slice (some ⟨g2,0,none⟩) n n,.slice none 0 0,.int .i64 0,.int .i64 (-1),.bool false]:=by simp[Aw,QY]
 exact⟨aa,hb1,hb2,rfl,by show(Aad n ey).length<=1024;rw[wK];exact hn,hne,ak.nil _ _ _ _ _,(λx hx=>by cases hx),Bq,KO⟩
theorem size_alloc(w:af)(o:Obj):(w.alloc o).heap.size=w.heap.size+1:=aq
theorem sM{op:Abn}(hw:Aaa op (Aa1 ops a.tmps)=true)(t:Aab)(i0 i1 i2:Nat)(x0 x1 x2:bU)(ho:op.op=.build t #[(i0,x0),(i1,x1),(i2,x2)])(v0 v1 v2:ah)(h0:a.eval x0=v0)(h1:a.eval x1=v1)(h2:a.eval x2=v2)(C:Array ah)(hb:P.built t [(i0,v0),(i1,v1),(i2,v2)]=some C):Yields P ops op (.agg C) a:=.inl ⟨hw,λw=>by
  unfold Abt;simp only[ho,Aay,(run_build (P:=P) w t (#[(i0,x0),(i1,x1),(i2,x2)].map λ(i,x)=>(i,a.eval x)) C aa),Aax];rfl⟩
theorem HS(w w5:af)(hu:Up w w5)(n:Nat)(hn:n<=1024)(g1 g2:Nat)(hg:(g1=w5.heap.size/\g2=w5.heap.size+1)\/(g1=w5.heap.size+1/\g2=w5.heap.size)):Dv (((w5.alloc (.cells (gy (Aad n ey)) 60)).alloc (.cells (gy (Aad n ey)) 60)).alloc (.cells #[.slice (some ⟨g1,0,none⟩) n n,.slice (some ⟨g2,0,none⟩) n n,.slice none 0 0,.int .i64 0,.int .i64 (-1),.bool false] 114)) ⟨w5.heap.size+2,g1,g2,.slice none 0 0⟩ (QY n)/\Up w (((w5.alloc (.cells (gy (Aad n ey)) 60)).alloc (.cells (gy (Aad n ey)) 60)).alloc (.cells #[.slice (some ⟨g1,0,none⟩) n n,.slice (some ⟨g2,0,none⟩) n n,.slice none 0 0,.int .i64 0,.int .i64 (-1),.bool false] 114))/\∀b,cM ⟨w5.heap.size+2,g1,g2,.slice none 0 0⟩ b->w.heap.size<=b:=by
 have ba:=((aF.newAt w5 _ rfl 60 (gy (Aad n ey))).up (ai _ (.cells (gy (Aad n ey)) 60))).up (ai _ (.cells #[.slice (some ⟨g1,0,none⟩) n n,.slice (some ⟨g2,0,none⟩) n n,.slice none 0 0,.int .i64 0,.int .i64 (-1),.bool false] 114));have bb:=(aF.newAt (w5.alloc (.cells (gy (Aad n ey)) 60)) (w5.heap.size+1) aq 60 (gy (Aad n ey))).up (ai _ (.cells #[.slice (some ⟨g1,0,none⟩) n n,.slice (some ⟨g2,0,none⟩) n n,.slice none 0 0,.int .i64 0,.int .i64 (-1),.bool false] 114));obtain⟨bd,hs⟩:=az (aF.newAt ((w5.alloc (.cells (gy (Aad n ey)) 60)).alloc (.cells (gy (Aad n ey)) 60)) (w5.heap.size+2) aq 114 #[.slice (some ⟨g1,0,none⟩) n n,.slice (some ⟨g2,0,none⟩) n n,.slice none 0 0,.int .i64 0,.int .i64 (-1),.bool false]) hu.size;refine⟨?_,((hu.alloc _).alloc _).alloc _,?_⟩
 ·grind [XC]
 ·rintro b(hb|hb|hb|hb)
  ·grind
  ·grind
  ·grind
  ·cases hb
theorem Ts(w:af)(m:Nat)(h1:m<=1024):Aae Aag 24 #[i6 (m:Int)] w λe w'=>∃h,e=.returned (pz h.d)/\Dv w' h (QY m)/\Up w w'/\∀b,cM h b->w.heap.size<=b:=by
 have h0:¬(m:Int)<0:=ae
 have h2:(m:Int)<=1024:=ae
 go_in;go_wp2;have ff:=(Up.refl w).drew;refine wp_region_any aA ?_;change wpAny _ _ _ _ 7 _ _ w.drew;generalize w.drew=w5 at *;refine Bi (i:=0) (v:=i6 ((m:Nat):Int)) rfl al al al (λ_ _ _ h=>h) (.inl ⟨rfl,λ_=>rfl⟩) ?_;refine Bi (i:=2) (v:=i6 ((m:Nat):Int)) rfl al al al (λ_ _ _ h=>h) (.inl ⟨rfl,λ_=>rfl⟩) ?_;simp only[Aao,fB];refine xh 1 3 _ _ al rfl rfl rfl rfl ?_ ?_
 ·refine sa 111 (.tmp 7) (.tmp 7) rfl _ _ _ _ underlying111 rr m ae ae rfl rfl _ (rL m) ?_;refine iG 3 _ al rfl rfl ?_;refine sa 111 (.tmp 9) (.tmp 9) rfl _ _ _ _ underlying111 rr m ae ae rfl rfl _ (rL m) ?_;have F:=an (HS w _ ff m ae _ _ (.inl ⟨rfl,rfl⟩));simp only[Aao,fB,size_alloc];refine Bi (i:=4) (v:=.agg #[cD w5.heap.size m m,cD (w5.heap.size+1) m m,nl,i6 0,i6 (-1),.bool false]) rfl al al al (λ_ _ _ h=>h) (sM rfl _ 0 1 4 (.tmp 8) (.tmp 10) (.const (i6 (-1))) rfl _ _ _ rfl rfl rfl _ (Df _ _ rfl rfl)) ?_;exact UZ
 ·refine sa 111 (.tmp 9) (.tmp 9) rfl _ _ _ _ underlying111 rr m ae ae rfl rfl _ (rL m) ?_;refine iG 1 _ al rfl rfl ?_;refine sa 111 (.tmp 7) (.tmp 7) rfl _ _ _ _ underlying111 rr m ae ae rfl rfl _ (rL m) ?_;have F:=an (HS w _ ff m ae _ _ (.inr ⟨rfl,rfl⟩));simp only[Aao,fB,size_alloc];refine Bi (i:=4) (v:=.agg #[cD (w5.heap.size+1) m m,cD w5.heap.size m m,nl,i6 0,i6 (-1),.bool false]) rfl al al al (λ_ _ _ h=>h) (sM rfl _ 0 1 4 (.tmp 8) (.tmp 10) (.const (i6 (-1))) rfl _ _ _ rfl rfl rfl _ (Df _ _ rfl rfl)) ?_;exact UZ
section
variable {P:bp}
end
def sN:Array ah:=(Aad 1024 (Ack .u8 0)++Aad 16 (Ack .i64 0)).toArray
theorem Dg:prog.built 165 []=some sN:=al
theorem Xa:∀W:af,(Acj 165).run Aag W=.ok (.agg sN) W:=(lA (P:=Aag) (t:=165) (v:=.agg sN) (n:=1040) aA).1
theorem YA(n:Nat)(v:α)(i:Nat)(h:i<n):(Aad n v)[i]?=some v:=aa
theorem YB(n:Nat)(v:α):κ (Aad n v)=n:=aq
theorem RC(j:Nat):gR (λ_=>0) j=0:=aA
theorem Y9(i:Nat)(hi:i<1040):sN[i]?=some (yu (λ_=>0) i):=by unfold sN yu;grind [YB,YA,RC]
def kf(n:Nat):Nat->Nat:=λi=>if 4<=i/\i<n then 1 else 0
theorem Q2(h:4<=k):ff (kf k) k 1=kf (k+1):=by grind [ff,kf]
theorem Q1:kf 4=λ_=>0:=by grind [kf]
theorem Cf(w:af)(n:Nat)(h1:4<=n)(h2:n<=1024):Aae Aag 57 #[i6 (n:Int)] w λe w'=>e=.returned (pz w.heap.size)/\b' w' w.heap.size (kf n)/\Up w w':=by
 have S0:=an (show b' (w.alloc (.cells sN 165)) w.heap.size (kf 4)from by rw[Q1];exact⟨_,aF.new w 165 sN,by simp[sN],Y9⟩)
 have hm:min (n:Int) 1024=(n:Int):=ae
 go_in;go_wp2_with(refine arm ?_);go_loopw [4] (λi wr=>∃k:Nat,4<=k/\k<=n/\i=i6 k/\b' wr w.heap.size (kf k)/\Up w wr) (λi _=>n-(Aau i).toNat)
 case atStart=>exact⟨4,ae,h1,rfl,S0,ai _ _⟩
 case round=>
  obtain⟨k,aa,hk,rfl,hS,upr⟩:=hrel;by_cases hlt:k<n
  ·have ST:=an (vS wr w.heap.size _ hS k 1 ae);rw[Q2 aa]at ST;have b2:((k:Int)<(n:Int))=True:=by simp;omega
   go_wp2_with fail;refine ST.mono ?_;rintro e w1⟨rfl,S1,T1⟩;go_wp2;go_roundw
   case rel=>exact⟨k+1,ae,ae,aq,S1,(T1.up upr (λb hb=>ae))⟩
   case measure=>simp[Aau];omega
  ·obtain rfl:k=n:=by omega
   have b2:((k:Int)<(k:Int))=False:=aq
   go_wp2;go_ret;exact⟨rfl,hS,upr⟩
theorem QH:(prog.info? 165).map (·.size)=some 1040:=al
theorem HJ{b n:Nat}{f:Nat->ah}(h:aF w b t C)(hn:C.size=n)(hc:∀i,i<n->C[i]?=some (f i))(h1:∀i,i<n->(f i).oneCell'=true):C.all (·.oneCell')=true:=aQ
theorem LX(w:af)(b:Nat)(s:Nat->Nat)(S:b' w b s):Aae Aag 87 #[pz b] w λe w'=>e=.returned (pz w.heap.size)/\b' w' w.heap.size s/\Up w w':=by
 obtain⟨C,h1,h2,h3⟩:=S;have HI:=an (show(prog.info? 165).map (·.size)=some C.size by rw[h2];exact QH);go_in;go_wp2_with(first
  | refine arm ?_
  | ((with_reducible refine cx 165 (.tmp 3) (.tmp 6) ?_);refine fK w rfl 165 (.tmp 3) (.tmp 6) rfl C 165 sN rfl rfl rfl HI (by rw[h2];simp[sN]) (HJ h1 h2 h3 (λi _=>by unfold yu;split<;>rfl)) ?_))
 go_ret;exact⟨rfl,⟨C,aF.new w _ C,h2,h3⟩,ai _ _⟩
def iR(s:Nat->Nat)(n:Nat):Nat->Nat:=λi=>if i<n/\s i=3 then 1 else s i
theorem Kt{s:Nat->Nat}(h:s k=3):ff (iR s k) k 1=iR s (k+1):=by grind [ff,iR]
theorem Qo{s:Nat->Nat}(h:s k≠3):iR s k=iR s (k+1):=by grind [iR]
theorem Qn(s:Nat->Nat)(k:Nat):iR s k k=s k:=by simp[iR]
theorem Jd(w:af)(b:Nat)(s:Nat->Nat)(S:b' w b s):Aae Aag 218 #[pz b] w λe w'=>e=rt #[]/\b' w' b (iR s 1024)/\Touch (·=b) w w':=by
 go_in;go_wp2;go_loopw [3] (λi wr=>∃k:Nat,k<=1024/\i=i6 k/\b' wr b (iR s k)/\Touch (·=b) w wr) (λi _=>1024-(Aau i).toNat)
 case atStart=>exact⟨0,ae,rfl,cj,Touch.refl _ _⟩
 case round=>
  obtain⟨k,hk,rfl,hS,ht⟩:=hrel;by_cases hlt:k<1024
  ·have I:=zO wr b _ hS k 3;rw[rB _ k 3 hlt,Qn]at I;have b2:((k:Int)<1024)=True:=by simp;omega
   by_cases h3:s k=3
   ·rw[h3]at I;have ST:=an (vS wr b _ hS k 1 hlt);rw[Kt h3]at ST;go_wp2_with fail;refine I.mono ?_;rintro e w1⟨rfl,rfl⟩;go_wp2_with fail;refine ST.mono ?_;rintro e w1⟨rfl,S1,T1⟩;have T1:=an (ht.trans T1 (λn h _=>h));go_wp2;go_roundw
    case rel=>exact⟨k+1,ae,aq,S1,T1⟩
    case measure=>simp[Aau];omega
   ·rw[jj h3]at I;rw[Qo h3]at hS;go_wp2_with fail;refine I.mono ?_;rintro e w1⟨rfl,rfl⟩;go_wp2;go_roundw
    case rel=>grind
    case measure=>simp[Aau];omega
  ·obtain rfl:k=1024:=by omega
   have b2:((1024:Nat):Int)=1024:=rfl;go_wp2;go_end0;grind
def lF(s:Nat)(l:List au):List au:=l.filter (λp=>decide (p.aU<=s))
def hQ(s:Nat)(l:List au):List au:=l.filter (λp=>decide (s<p.aU))
theorem hy:(prog.info? 87).map (λi=>(i.zero,i.size,i.bytes))=some (some (.agg #[.int .i64 0,.int .u64 0,.int .u32 0]),3,24):=al
theorem xB(p:α->Bool)(l:List α)(k:Nat)(h:k<κ l):(l.take (k+1)).filter p=(l.take k).filter p++(if p l[k]=true then [l[k]] else []):=by rw[et h,kD];grind
theorem rU(w:af)(b:Nat)(hb:b=w.heap.size)(l:Int)(bi s:Nat):c9 (w.alloc (.cells #[.int .i64 l,.int .u64 bi,.int .u32 s] 87)) (.slice (some ⟨b,0,none⟩) 1 1) [⟨l,bi,s⟩]:=aH.ew w b hb _ _ _ _ _ rfl av rfl
theorem RS(w:af)(v:ah)(l:List au)(hv:c9 w v l)(s:Nat)(hr:κ l*24<=140737488355328):Aae Aag 207 #[v,.int .u64 (s:Int)] w λe w'=>∃u1 u2,e=rt #[u1,u2]/\bf w' w.heap.size u1 (lF s l)/\bf w' w.heap.size u2 (hQ s l)/\Up w w':=by
 have hlen:=hv.length_le;obtain⟨a,cap,rfl⟩:=hv.slice;go_in;go_wp2_with fail;go_loopw [6,7,12] (λu1 u2 i wr=>∃k:Nat,k<=κ l/\i=i6 k/\bf wr w.heap.size u1 (lF s (l.take k))/\bf wr w.heap.size u2 (hQ s (l.take k))/\pX u1 u2/\Up w wr) (λ_ _ i _=>κ l-(Aau i).toNat)
 case atStart=>exact⟨0,bT _,rfl,ak.nil _ _ _ _ _,ak.nil _ _ _ _ _,.inl rfl,Up.refl _⟩
 case round=>
  obtain⟨k,hk,rfl,aL,aC,aZ,upr⟩:=hrel;by_cases hlt:k<κ l
  ·obtain⟨b,off,rfl,hbs,bc,hc⟩:=rZ (aH.up hv upr) ae;obtain⟨aM,aN,al⟩:=cZ ((hc k hlt).1) ((hc k hlt).2.1) ((hc k hlt).2.2);refine iD ?_;intro b2;obtain⟨S,E1,E2⟩:=aV (λW=>D8 W l[k] s) (xB (λp:au=>decide (p.aU<=s)) l k hlt) (xB (λp:au=>decide (s<p.aU)) l k hlt);have aO:=Cc l[k].loc l[k].aU l[k].sum s;have aQ:l[k]=⟨l[k].loc,l[k].aU,l[k].sum⟩:=rfl;rw[<-aQ]at aO;have av:=an aO;clear hc aO aQ;have aF:κ (lF s (l.take k))<=k:=by unfold lF;exact bK (qx _ _) ab
   have aB:κ (hQ s (l.take k))<=k:=by unfold hQ;exact bK (qx _ _) ab
   generalize l[k]=p at *;obtain⟨pl,pb,ps⟩:=p;unfold fI at S;simp only at S aM aN al E1 E2 av;generalize fj ⟨pl,pb,ps⟩ s=g at *;obtain⟨ag,aI,aK,HV⟩:=bW aL aC aZ hv;clear aL aC aZ hv;go_wp2_with fail;refine(S _).mono ?_;rintro e w3⟨rfl,ax⟩;have upa:=(ai wr (.cells #[i6 pl,.int .u64 pb,.int .u32 ps] 87)).trans ax;have d0:w3.cell? (ad wr.heap.size 0)=some (i6 pl):=ax.cell (du wr _ _ _ 0 _ rfl);have d1:w3.cell? (ad wr.heap.size 1)=some (.int .u64 pb):=ax.cell (du wr _ _ _ 1 _ rfl);have d2:w3.cell? (ad wr.heap.size 2)=some (.int .u32 ps):=ax.cell (du wr _ _ _ 2 _ rfl);obtain⟨o1,o2,ao⟩:=cZ (ag.up upa) (aI.up upa) (upr.trans upa);have aP:=ao.size;clear ax;cases g
   ·have ay:¬s<pb:=by intro h;have:=av.2 ⟨ae,h⟩;cases this
    have e1:lF s (l.take (k+1))=lF s (l.take k)++[⟨pl,pb,ps⟩]:=by unfold lF;rw[E1.out,bI ab]
    have e2:hQ s (l.take (k+1))=hQ s (l.take k):=by unfold hQ;rw[E2.out,aY ab,Ab1]
    obtain⟨aA,aD⟩:=aw e1 e2;clear e1 e2;go_wp2_with(at_builtin;refine eV pw rfl (.tmp 23) (.tmp 25) 88 rfl w.heap.size 87 (.agg #[i6 0,.int .u64 0,.int .u32 0]) 24 Aaq hy rfl _ (lF s (l.take k)) rfl (o1.up (ai _ _)) (cD w3.heap.size 1 1) [⟨pl,pb,ps⟩] rfl (rU w3 w3.heap.size rfl pl pb ps) ab ab ab ?_);intro v' w5 aa aq ar aj;have aS:=o2.up (ai w3 (.cells #[i6 pl,.int .u64 pb,.int .u32 ps] 87));obtain⟨k2,ap⟩:=az (aS.kept aq (pX.symm aK)) (((pX.symm aK).grown aj (λn hn=>(aS.aJ n hn).2)).symm);go_wp2_with fail;go_roundw
    case rel=>exact⟨k+1,ae,gO,by rw[aA.out];exact aa,by rw[aD.out];exact k2,ap,(ao.alloc _).aG ar (aE _)⟩
    case measure=>simp[Aau];omega
   ·have aT:=(av.1 rfl).2;have e1:lF s (l.take (k+1))=lF s (l.take k):=by unfold lF;rw[E1.out,aY ab,Ab1]
    have e2:hQ s (l.take (k+1))=hQ s (l.take k)++[⟨pl,pb,ps⟩]:=by unfold hQ;rw[E2.out,bI ab]
    obtain⟨aA,aD⟩:=aw e1 e2;clear e1 e2;go_wp2_with(at_builtin;refine eV pw rfl (.tmp 19) (.tmp 21) 88 rfl w.heap.size 87 (.agg #[i6 0,.int .u64 0,.int .u32 0]) 24 Aaq hy rfl _ (hQ s (l.take k)) rfl (o2.up (ai _ _)) (cD w3.heap.size 1 1) [⟨pl,pb,ps⟩] rfl (rU w3 w3.heap.size rfl pl pb ps) ab ab ab ?_);intro v' w5 aa aq ar aj;have aR:=o1.up (ai w3 (.cells #[i6 pl,.int .u64 pb,.int .u32 ps] 87));obtain⟨k1,ap⟩:=az (aR.kept aq aK) (aK.grown aj (λn hn=>(aR.aJ n hn).2));go_wp2_with fail;go_roundw
    case rel=>exact⟨k+1,ae,gO,by rw[aA.out];exact k1,by rw[aD.out];exact aa,ap,(ao.alloc _).aG ar (aE _)⟩
    case measure=>simp[Aau];omega
  ·obtain rfl:k=κ l:=by omega
   rw[fF]at *;go_wp2_with fail;go_ret2;exact⟨_,_,rfl,aL,aC,upr⟩
theorem aas(l l2:Int)(b s b2 s2:Nat)(W:af):(Ach 10000 87 (.agg #[i6 l,u6 (b:Int),.int .u32 (s:Int)]) (.agg #[i6 l2,u6 (b2:Int),.int .u32 (s2:Int)])).run Aag W=.ok (decide ((⟨l,b,s⟩:au)=⟨l2,b2,s2⟩)) W:=by
 have e:decide ((⟨l,b,s⟩:au)=⟨l2,b2,s2⟩)=((l==l2) && (((b:Int)==(b2:Int)) && ((s:Int)==(s2:Int)))):=aQ
 rw[e];exact Oh
theorem kB{p q r:au}(h:dA p q=true)(h2:dA q r=true):dA p r=true:=by obtain⟨l,b,s⟩:=p;obtain⟨l2,b2,s2⟩:=q;obtain⟨l3,b3,s3⟩:=r;grind [rC]
theorem uF(p:au):dA p p=false:=by obtain⟨l,b,s⟩:=p;grind [rC]
theorem Iq{p q:au}(h:dA p q=false)(h2:dA q p=false):p=q:=by obtain⟨l,b,s⟩:=p;obtain⟨l2,b2,s2⟩:=q;grind [rC]
def rb(l:List au):Prop:=∀i j(hj:j<κ l)(aj:i<j),dA (l[i]' ae) l[j]=true
theorem GX(h:hn l=true):rb l:=by
 rw[jo]at h;intro i j;induction j with
 | zero=>omega
 | succ j ih=>grind [Yq,kB]
def ho(l:List au)(q:au):Nat:=κ (l.takeWhile (λp=>dA p q))
theorem O7:∀(l:List au)(q:au)(i:Nat)(aa:i<=κ l),(∀k(hk:k<κ l),k<i->dA l[k] q=true)->(∀h:i<κ l,dA l[i] q=false)->ho l q=i
 | [],q,i,hi,_,_=>by simp at hi;subst hi;rfl
 | x::l,q,0,_,_,h2=>by have:=h2 aq;simp at this;simp[ho,Ab7,this]
 | x::l,q,i+1,hi,h1,h2=>by have hx:dA x q=true:=h1 0 aq ae;have ih:=O7 l q i Bo (λk hk ab=>h1 (k+1) (by simpa using hk) ae) (λh=>h2 jR);unfold ho at *;simp[Ab7,hx,ih]
theorem Yy(l:List au)(q:au):ho l q<=κ l:=by unfold ho;exact(List.takeWhile_sublist _).length_le
theorem IW(l:List au)(q:au)(h:ho l q<κ l):dA l[ho l q] q=false:=by
 induction l with
 | nil=>simp at h
 | cons x l ih=>
  cases hx:dA x q
  ·have e:ho (x::l) q=0:=by simp[ho,Ab7,hx]
   simp_all
  ·have e:ho (x::l) q=ho l q+1:=by simp[ho,Ab7,hx]
   simp_all
theorem O8{q:au}:∀k(hk:k<κ l),k<ho l q->dA l[k] q=true:=by
 induction l with
 | nil=>simp
 | cons x l ih=>
  intro k hk hlt;cases hx:dA x q
  ·have e:ho (x::l) q=0:=by simp[ho,Ab7,hx]
   omega
  ·have e:ho (x::l) q=ho l q+1:=by simp[ho,Ab7,hx]
   cases k with
   | zero=>assumption
   | succ k=>simp_all
def wi(l:List au)(q:au):Option (List au):=if nK q=true/\q ∉ l then some (l.take (ho l q)++q::l.drop (ho l q))else none
theorem Yg(hs:rb l)(q:au):q∈l↔∃h:ho l q<κ l,l[ho l q]=q:=by
 constructor
 ·intro hm;obtain⟨j,hj,rfl⟩:=jP hm;have h1:¬j<ho l l[j]:=λh=>by have:=O8 j hj h;grind [uF]
  refine⟨ae,?_⟩;by_cases e:ho l l[j]=j
  ·simp_all
  ·have:=hs (ho l l[j]) j hj ae;grind [IW]
 ·grind
theorem Hx{v:ah}(hv:c9 w v l)(k:Nat)(hk:k<κ l):∃b off cap,v=.slice (some ⟨b,off,none⟩) (κ l) cap/\w.cell? ⟨b,off+k*3,none⟩=some (.int .i64 l[k].loc)/\w.cell? ⟨b,off+k*3+1,none⟩=some (.int .u64 (l[k].aU:Int))/\w.cell? ⟨b,off+k*3+2,none⟩=some (.int .u32 (l[k].sum:Int)):=by obtain⟨a,cap,rfl⟩:=hv.slice;grind [rZ]
theorem HO(w:af)(v:ah)(l:List au)(hv:c9 w v l)(q:au)(b1 b2:Nat)(c0:w.cell? (ad b1 0)=some v)(d0:w.cell? (ad b2 0)=some (i6 q.loc))(d1:w.cell? (ad b2 1)=some (u6 (q.aU:Int)))(d2:w.cell? (ad b2 2)=some (.int .u32 (q.sum:Int)))(k:Nat)(hk:k<κ l):Aae Aag 223 #[i6 (k:Int),pz b1,pz b2] w λe w'=>kk (!dA l[k] q) w e w':=by
 obtain⟨b,off,cap,rfl,e0,e1,e2⟩:=Hx hv k hk;have L:=an (show pZ (fI l[k]) (fI q) (dA l[k] q)from⟨λW=>uE W l[k] q⟩);refine KW ?_;intro x0 x1 x2 x3 x4 x5 x6;have t1:((k:Int)<(κ l:Int))=True:=ab
 generalize l[k]=p at *;obtain⟨pl,pb,ps⟩:=p;obtain⟨ql,qb,qs⟩:=q;unfold fI at L;simp only at L x0 x1 x2 x3 x4 x5 x6;generalize dA ⟨pl,pb,ps⟩ ⟨ql,qb,qs⟩=g at *;go_in;go_wp2;refine gD ?_;repeat(go_big_quiet_step ((go_at_call 224;exact kH (l1 _ _ _ _ L))))
 refine yY ?_;intro w4 av;obtain⟨⟨d,os⟩,hw4⟩:=av;have up4:Up w w4:=FV
 clear hw4 x0 x1 x2 x3 x4 x5 x6;go_wp2_with fail;go_ret;exact⟨rfl,up4⟩
theorem LP(w:af)(v:ah)(l:List au)(hv:c9 w v l)(hs:rb l)(q:au)(b1 b2:Nat)(c0:w.cell? (ad b1 0)=some v)(d0:w.cell? (ad b2 0)=some (i6 q.loc))(d1:w.cell? (ad b2 1)=some (u6 (q.aU:Int)))(d2:w.cell? (ad b2 2)=some (.int .u32 (q.sum:Int)))(n:Nat)(hn:n=κ l)(al:n<=4611686018427387903):Aae Aag 222 #[i6 (n:Int),.func (.func 223) #[] #[pz b1,pz b2]] w λe w'=>e=.returned (i6 (ho l q:Nat))/\Up w w':=by
 obtain⟨HN,HV,HS⟩:=aV hn hv hs;have C:=an (show ∀wr,Up w wr->∀k(hk:k<κ l),Aae Aag 223 #[i6 (k:Int),pz b1,pz b2] wr λe w'=>kk (!dA l[k] q) wr e w' from λwr up k hk=>HO wr v l (aH.up hv up) q b1 b2 (up.cell c0) (up.cell d0) (up.cell d1) (up.cell d2) k hk);clear hn hv hs c0 d0 d1 d2;go_in;go_wp2_with fail;go_loopw [5,6] (λi j wr=>∃a b:Nat,i=i6 a/\j=i6 b/\a<=b/\b<=n/\(∀k(hk:k<κ l),k<a->dA l[k] q=true)/\(∀k(hk:k<κ l),b<=k->dA l[k] q=false)/\Up w wr) (λi j _=>(Aau j).toNat-(Aau i).toNat)
 case atStart=>exact⟨0,n,rfl,rfl,ae,ae,λk hk h=>ae,λk hk h=>di,Up.refl _⟩
 case round=>
  obtain⟨a,b,rfl,rfl,ar,aW,h1,h2,upr⟩:=hrel;obtain⟨H1,H2⟩:=aw h1 h2;clear h1 h2;by_cases hlt:a<b
  ·have t1:((a:Int)<(b:Int))=True:=by simp;omega
   have az:(a<b)=True:=ab
   obtain⟨h,hh⟩:=bE ((a+b)/2);have aa:h<κ l:=di
   have e1:IntKind.i64.wrap ((a:Int)+(b:Int))=(a:Int)+(b:Int):=aX (a+b) ae;have e2:((a:Int)+(b:Int))/2=(h:Int):=ae
   have e3:IntKind.i64.wrap ((h:Int)+1)=(h:Int)+1:=aX (h+1) ae;have ag:a<=h:=ae
   have ai:h<b:=ae
   have CC:=an (C wr upr h aa);cases hg:dA l[h] q
   ·have K:∀k(hk:k<κ l),h<=k->dA l[k] q=false:=λk hk hle=>by
     by_cases e:k=h
     ·grind
     ·cases h3:dA l[k] q
      ·rfl
      ·have:=kB (HS h k hk ae) h3;grind
    have KK:=an K;rw[hg]at CC;clear hg K hh;go_wp2_with fail;refine CC.mono ?_;rintro e w3⟨rfl,ax⟩;go_wp2_with fail;go_roundw
    case rel=>exact⟨a,h,rfl,rfl,ae,ae,H1,KK,upr.trans ax⟩
    case measure=>simp[Aau];omega
   ·have K:∀k(hk:k<κ l),k<h+1->dA l[k] q=true:=λk hk hle=>by
     by_cases e:k=h
     ·grind
     ·exact kB (HS k h aa ae) hg
    have KK:=an K;rw[hg]at CC;clear hg K hh;go_wp2_with fail;refine CC.mono ?_;rintro e w3⟨rfl,ax⟩;go_wp2_with fail;go_roundw
    case rel=>exact⟨h+1,b,aq,rfl,ae,ae,KK,H2,upr.trans ax⟩
    case measure=>simp[Aau];omega
  ·obtain rfl:a=b:=by omega
   have hp:ho l q=a:=O7 l q a di H1 (λh=>H2 a h ae);have HP:=an hp;clear hp;go_wp2_with fail;go_ret;exact⟨by rw[HP.out]<;>rfl,upr⟩
def Xd(o:Option (List au))(w:af)(e:Ab2)(w':af):Prop:=match o with
 | none=>e=.returned (.tuple #[.slice none 0 0,.int .i64 131])/\Up w w'
 | some m=>∃u,e=.returned (.tuple #[u,.int .i64 0])/\bf w' w.heap.size u m/\Up w w'
theorem r2:∀W:af,(sizeOf (prog.elem 88)).run Aag W=.ok 3 W:=λW=>by
 obtain⟨i,hi⟩:∃i,prog.info? (prog.elem 88)=some i:=Adt.1 aA;rw[run_sizeOf W hi];have:prog.cellsOf (prog.elem 88)=3:=al
 rw[this]
theorem r0:prog.underlying 88=some (.slice (prog.elem 88)):=al
theorem Xi(w:af)(v:ah)(l:List au)(hv:c9 w v l)(hs:rb l)(q:au)(hr:κ l*24<=281474976710632):Aae Aag 161 #[v,fI q] w λe w'=>Xd (wi l q) w e w':=by
 have hlen:κ l<=11728124029609:=ae
 obtain⟨w0,ay⟩:=bE ((w.alloc (.cells #[v] 88)).alloc (.cells #[i6 q.loc,u6 (q.aU:Int),.int .u32 (q.sum:Int)] 87));have aJ:Up w w0:=by rw[ay];exact(ai _ _).alloc _
 have c0:w0.cell? (ad w.heap.size 0)=some v:=by rw[ay];exact(ai _ _).cell (du w _ _ _ 0 _ rfl)
 have d0:w0.cell? (ad (w.heap.size+1) 0)=some (i6 q.loc):=by rw[ay,<-Aa3];exact du _ _ _ _ 0 _ rfl
 have d1:w0.cell? (ad (w.heap.size+1) 1)=some (u6 (q.aU:Int)):=by rw[ay,<-Aa3];exact du _ _ _ _ 1 _ rfl
 have d2:w0.cell? (ad (w.heap.size+1) 2)=some (.int .u32 (q.sum:Int)):=by rw[ay,<-Aa3];exact du _ _ _ _ 2 _ rfl
 have aO:c9 w0 v l:=aH.up hv aJ;obtain⟨SE,F⟩:=aw (LP w0 v l aO hs q w.heap.size (w.heap.size+1) c0 d0 d1 d2 (κ l) rfl ae) (λW=>HY W q);obtain⟨ag,aF⟩:=az (Yg hs q) (Yy l q);have a1:wi l q=if nK q=true/\q ∉ l then some (l.take (ho l q)++q::l.drop (ho l q))else none:=rfl;rw[a1];have CA:∀w1,Up w0 w1->w1.cell? (ad w.heap.size 0)=some v/\w1.cell? (ad (w.heap.size+1) 0)=some (i6 q.loc)/\w1.cell? (ad (w.heap.size+1) 1)=some (u6 (q.aU:Int))/\w1.cell? (ad (w.heap.size+1) 2)=some (.int .u32 (q.sum:Int)):=λw1 u=>⟨u.cell c0,u.cell d0,u.cell d1,u.cell d2⟩;have CA':=an CA;obtain⟨aL,TE⟩:=aw aO (λ(h:ho l q<κ l) w1 (u:Up w0 w1)=>Hx (aH.up aO u) (ho l q) h);generalize ho l q=i at *;have aW:∀(h:i<κ l) W,(Ach 10000 87 (.agg #[i6 l[i].loc,u6 (l[i].aU:Int),.int .u32 (l[i].sum:Int)]) (.agg #[i6 q.loc,u6 (q.aU:Int),.int .u32 (q.sum:Int)])).run Aag W=.ok (decide (l[i]=q)) W:=λh W=>aas l[i].loc q.loc l[i].aU l[i].sum q.aU q.sum W;have ao:=an aW;cases hf:nK q
 case false=>
  rw[aY aq];rw[hf]at F;show Aae _ _ _ _ λe w'=>e=rt #[nl,i6 131]/\Up w w';obtain⟨ql,qb,qs⟩:=q;unfold fI at *;simp only at CA' F SE ay;go_in;obtain⟨a,cap,rfl⟩:=aL.slice;go_wp2_with fail;rw[<-ay];refine SE.mono ?_;rintro e w1⟨rfl,up1⟩;obtain⟨c0,d0,d1,d2⟩:=CA' w1 up1;obtain⟨x0,x1,x2,x3,aN⟩:=yj (dk c0) (dk d0) (dk d1) (dk d2) (aJ.trans up1);go_wp2;refine gD ?_;repeat(go_big_quiet_step ((go_at_call 225;exact kH (F _))))
  refine ve ?_;intro w4 d os hw4 up4;clear hw4 x0 x1 x2 x3;go_wp2_with fail;go_ret2;exact⟨rfl,aN.trans up4⟩
 by_cases hm:q∈l
 ·rw[aY ab];rw[hf]at F;obtain⟨hi,he⟩:=ag.1 hm;obtain⟨te,NE⟩:=az (TE hi) (ao hi);have hd:decide (l[i]=q)=true:=by simp;omega
  rw[hd]at NE;clear hf ag ao TE hd he hm;show Aae _ _ _ _ λe w'=>e=rt #[nl,i6 131]/\Up w w';have t1:((i:Int)<(κ l:Int))=True:=ab
  have t2:decide (i<κ l)=true:=ab
  generalize l[i]=p at *;obtain⟨pl,pb,ps⟩:=p;obtain⟨ql,qb,qs⟩:=q;unfold fI at *;simp only at CA' F SE ay NE te;have TE:=an te;clear te;go_in;obtain⟨a,cap,rfl⟩:=aL.slice;go_wp2_with fail;rw[<-ay];refine SE.mono ?_;rintro e w1⟨rfl,up1⟩;obtain⟨c0,d0,d1,d2⟩:=CA' w1 up1;obtain⟨b,off,al,aP,e0,e1,e2⟩:=TE w1 up1;simp only[Abg,true_and]at aP;obtain⟨rfl,rfl⟩:=aP;refine KW ?_;intro x0 x1 x2 x3 x4 x5 x6;have aN:=aJ.trans up1;clear ay aJ up1 c0 d0 d1 d2 e0 e1 e2;go_wp2_with fail;refine gD ?_;repeat(go_big_quiet_step ((go_at_call 225;exact kH (F _))))
  refine ve ?_;intro w4 d os hw4 up4;clear hw4 x0 x1 x2 x3 x4 x5 x6;go_wp2_with fail;go_ret2;exact⟨rfl,aN.trans up4⟩
 rw[bI ⟨rfl,hm⟩];rw[hf]at F;have Q:(decide (i<κ l)=false/\((i:Int)<(κ l:Int))=False)\/∃h:i<κ l,decide (l[i]=q)=false:=aQ
 have MK:∀W:af,(Acf 88 (i6 0) (i6 ((κ l:Int)+1))).run Aag W=_:=λW=>by have:=mB (P:=Aag) 88 87 _ 3 24 Aaq hy (κ l+1) ae ae W;simpa using this
 have a':IntKind.i64.wrap ((κ l:Int)+1)=(κ l:Int)+1:=aX (κ l+1) ae;have RM:=an (λW (B:Nat) (hB:B<=W.heap.size)=>ak.room dL 3 87 W (.agg #[i6 0,u6 0,.int .u32 0]) B (κ l+1) hB ae);generalize Acv (Value.agg #[i6 0,u6 0,.int .u32 0]).cells ((κ l+1)*3)=zr at *;obtain⟨Lt,Ld⟩:=aw (show(l.take i).length=i from ab) (show(l.drop i).length=κ l-i from aq);clear hf ag hm;show Aae _ _ _ _ λe w'=>∃u,e=rt #[u,i6 0]/\bf w' w.heap.size u (l.take i++q::l.drop i)/\Up w w';obtain⟨a,cap,rfl⟩:=aL.slice;have aS:κ l<=cap:=by
  rcases aL.out with⟨rfl,_⟩|⟨b,off,al,hx,_,h1,_⟩
  ·simp
  ·grind
 have a7:∀W,(Aav 88 (.slice a (κ l) cap) none (some (i6 (i:Int))) none).run Aag W=.ok (partOf 3 a 0 i cap) W:=x9 (P:=Aag) 88 3 r0 r2 a (κ l) cap i ae;have a8:∀W,(Aav 88 (.slice a (κ l) cap) (some (i6 (i:Int))) none none).run Aag W=.ok (partOf 3 a i (κ l) cap) W:=gq (P:=Aag) 88 3 r0 r2 a (κ l) cap i aF;have aT:c9 w0 (partOf 3 a 0 i cap) (l.take i):=by simpa using aH.part pw aL (lo:=0) (hi:=i) ae aF
 have aV:c9 w0 (partOf 3 a i (κ l) cap) (l.drop i):=by simpa using aH.part pw aL (lo:=i) (hi:=κ l) aF (aE _)
 have PI1':=an aT;have PI2':=an aV;clear aT aV;generalize partOf 3 a 0 i cap=pv1 at *;generalize partOf 3 a i (κ l) cap=pv2 at *;rcases Q with⟨q1,q2⟩|⟨hi,hd⟩
 ·clear ao TE;obtain⟨ql,qb,qs⟩:=q;unfold fI at *;simp only at CA' F SE ay;go_in;go_wp2_with fail;rw[<-ay];clear ay;refine SE.mono ?_;rintro e w1⟨rfl,up1⟩;obtain⟨c0,d0,d1,d2⟩:=CA' w1 up1;obtain⟨x0,x1,x2,x3⟩:=iv (dk c0) (dk d0) (dk d1) (dk d2);clear c0 d0 d1 d2;go_wp2_with fail;refine gD ?_;repeat(go_big_quiet_step ((go_at_call 225;exact kH (F _))))
  refine ve ?_;intro w4 d os hw4 up4;clear hw4 x0 x1 x2 x3;exact Zs
 ·obtain⟨te,NE⟩:=az (TE hi) (ao hi);rw[hd]at NE;clear ao TE hd;have t1:((i:Int)<(κ l:Int))=True:=by simp;omega
  have t2:decide (i<κ l)=true:=ab
  generalize l[i]=p at *;obtain⟨pl,pb,ps⟩:=p;obtain⟨ql,qb,qs⟩:=q;unfold fI at *;simp only at CA' F SE ay NE te;have TE:=an te;clear te;go_in;go_wp2_with fail;rw[<-ay];clear ay;refine SE.mono ?_;rintro e w1⟨rfl,up1⟩;obtain⟨c0,d0,d1,d2⟩:=CA' w1 up1;obtain⟨b,off,al,aP,e0,e1,e2⟩:=TE w1 up1;simp only[Abg,true_and]at aP;obtain⟨rfl,rfl⟩:=aP;refine KW ?_;intro x0 x1 x2 x3 x4 x5 x6;clear c0 d0 d1 d2 e0 e1 e2;go_wp2_with fail;refine gD ?_;repeat(go_big_quiet_step ((go_at_call 225;exact kH (F _))))
  refine ve ?_;intro w4 d os hw4 up4;clear hw4 x0 x1 x2 x3 x4 x5 x6;exact Zs
def en:List au->List au->Option (List au)
 | [],b=>some b
 | a,[]=>some a
 | x::a,y::b=>if dA x y=true then(en a (y::b)).map (x::·)else if dA y x=true then(en (x::a) b).map (y::·)else none
termination_by a b=>κ a+κ b
theorem rO(b:List au):en [] b=some b:=by simp[en]
theorem Bv(a:List au):en a []=some a:=by
 cases a with
 | nil=>exact rO []
 | cons x a=>simp[en]
theorem Bw(a b:List au)(ha:0<κ a)(hb:0<κ b):en a b=if dA a[0] b[0]=true then(en (a.drop 1) b).map (a[0]::·)else if dA b[0] a[0]=true then(en a (b.drop 1)).map (b[0]::·)else none:=by
 cases a with
 | nil=>simp at ha
 | cons x a=>
  cases b with
  | nil=>simp at hb
  | cons y b=>rw[en];rfl
def T3:ah->Nat
 | .slice _ n _=>n
 | _=>0
def Py(o:Option (List au))(w:af)(e:Ab2)(w':af):Prop:=(o=none/\e=.returned (.tuple #[.slice none 0 0,.int .i64 131])/\Up w w')\/∃m u,o=some m/\e=.returned (.tuple #[u,.int .i64 0])/\bf w' w.heap.size u m/\Up w w'
theorem QR(w:af)(v v2:ah)(a0 b0:List au)(hv:c9 w v a0)(ax:c9 w v2 b0)(hr:(κ a0+κ b0)*24<=281474976710656):Aae Aag 208 #[v,v2] w λe w'=>Py (en a0 b0) w e w':=by
 obtain⟨T,hT⟩:=bE (κ a0+κ b0);refine OK ?_;intro MK;have RM:=an (λW (B:Nat) (hB:B<=W.heap.size)=>ak.room dL 3 87 W (.agg #[i6 0,u6 0,.int .u32 0]) B T hB ae);generalize Acv (Value.agg #[i6 0,u6 0,.int .u32 0]).cells (T*3)=zr at *;have wt:IntKind.i64.wrap ((κ a0:Int)+(κ b0:Int))=(T:Int):=by rw[show(κ a0:Int)+(κ b0:Int)=(T:Int)from ae];exact aX T ae
 obtain⟨va,ca,rfl⟩:=hv.slice;obtain⟨vb,cb,rfl⟩:=ax.slice;obtain⟨na,aS⟩:=bE (κ a0);obtain⟨nb,aO⟩:=bE (κ b0);rw[<-aS]at hv wt ⊢;rw[<-aO]at ax wt ⊢;obtain⟨aU,aM,HT,HV,a6⟩:=eW aS aO hT hv ax;have a1:T*24<=281474976710656:=ae
 clear aS aO hT hr;go_in;go_wp2;have aA:=RM w w.heap.size (aE _);obtain⟨g,hg⟩:=bE (w.heap.size);go_loopw [0,1,6] (λs t u wr=>∃(a b out:List au)(pa pb:Option Adr)(ka kb n m z:Nat),s=.slice pa n ka/\n=κ a/\c9 w (.slice pa n ka) a/\t=.slice pb m kb/\m=κ b/\c9 w (.slice pb m kb) b/\u=cD g z T/\z=κ out/\bf wr w.heap.size (cD g z T) out/\z+n+m=T/\en a0 b0=(en a b).map (out++·)/\Up w wr) (λs t _ _=>T3 s+T3 t)
 case atStart=>
  have hz:=ai w (.cells zr 87);refine⟨a0,b0,[],va,vb,ca,cb,na,nb,0,rfl,aU,HV,rfl,aM,a6,by rw[hg],rfl,by rw[hg];exact aA,?_,?_,hz⟩
  ·have:=aU.out;have:=aM.out;have:=HT.out;omega
  ·simp
 case round=>
  obtain⟨a,b,out,pa,pb,ka,kb,n,m,z,rfl,hn,ha,rfl,hm,hb,rfl,hz,hown,aL,aQ,upr⟩:=hrel;clear MK wt;obtain⟨HA,HB,HO,HN,HM,HZ,aD,HG⟩:=Ju ha hb hown hn hm hz aQ hg;clear aQ hz hg;by_cases h0:0<n/\0<m
  ·obtain⟨bc,a'⟩:=h0;have la:0<κ a:=by omega
   have lb:0<κ b:=ae
   have MS:=Bw a b la lb;obtain⟨ba,oa,rfl,_,aR,hca⟩:=rZ (aH.up HA upr) la;obtain⟨bb,ob,rfl,_,bd,aN⟩:=rZ (aH.up HB upr) lb;obtain⟨c0,c1,c2,e0,e1,e2⟩:=q5 ((hca 0 la).1) ((hca 0 la).2.1) ((hca 0 la).2.2) ((aN 0 lb).1) ((aN 0 lb).2.1) ((aN 0 lb).2.2);simp only[Nat.zero_mul,Nat.add_zero]at c0 c1 c2 e0 e1 e2;obtain⟨n',ag⟩:∃x,x=n-1:=⟨_,rfl⟩;obtain⟨m',aB⟩:∃x,x=m-1:=⟨_,rfl⟩;obtain⟨aF,aC⟩:∃p:Option Adr,p=(if ka=1 then some ⟨ba,oa,none⟩ else(some (⟨ba,oa,none⟩:Adr)).map (·.add (1*3))):=⟨_,rfl⟩;obtain⟨aT,aP⟩:∃p:Option Adr,p=(if kb=1 then some ⟨bb,ob,none⟩ else(some (⟨bb,ob,none⟩:Adr)).map (·.add (1*3))):=⟨_,rfl⟩;have PA:∀W,(Aav 88 (sq ba oa n ka) (some (i6 1)) none none).run Aag W=.ok (.slice aF n' (ka-1)) W:=λW=>by have:=gq (P:=Aag) 88 3 r0 r2 (some ⟨ba,oa,none⟩) n ka 1 ae W;rw[aC,ag];exact this
   have PB:∀W,(Aav 88 (sq bb ob m kb) (some (i6 1)) none none).run Aag W=.ok (.slice aT m' (kb-1)) W:=λW=>by have:=gq (P:=Aag) 88 3 r0 r2 (some ⟨bb,ob,none⟩) m kb 1 ae W;rw[aP,aB];exact this
   have RA:=an (show c9 w (.slice aF n' (ka-1)) (a.drop 1)by have:=aH.part pw HA (lo:=1) (hi:=n) ae ae;rw[hn,fF,<-hn]at this;rw[aC,ag];exact this)
   have RB:=an (show c9 w (.slice aT m' (kb-1)) (b.drop 1)by have:=aH.part pw HB (lo:=1) (hi:=m) ae ae;rw[hm,fF,<-hm]at this;rw[aP,aB];exact this)
   obtain⟨L1,L2,DA,DB⟩:=bW (show pZ (fI a[0]) (fI b[0]) (dA a[0] b[0])from⟨λW=>uE W _ _⟩) (show pZ (fI b[0]) (fI a[0]) (dA b[0] a[0])from⟨λW=>uE W _ _⟩) (show n'=κ (a.drop 1) by rw[hA];omega) (show m'=κ (b.drop 1) by rw[hA];omega);have t1:decide ((0:Int)<(n:Int))=true:=ab
   have az:decide (0<n)=true:=ab
   have t2:decide ((0:Int)<(m:Int))=true:=ab
   have aV:decide (0<m)=true:=ab
   have t3:((0:Int)<(n:Int))=True:=ab
   have t4:((0:Int)<(m:Int))=True:=ab
   obtain⟨aK,aq⟩:=aw (show n'+1=n from ae) (show m'+1=m from ae);clear hca aN aC aP hn hm ag aB;generalize a[0]=x at *;generalize b[0]=y at *;obtain⟨pl,pb,ps⟩:=x;obtain⟨ql,qb,qs⟩:=y;unfold fI at L1 L2;simp only at c0 c1 c2 e0 e1 e2 L1 L2 MS;generalize dA ⟨pl,pb,ps⟩ ⟨ql,qb,qs⟩=a7 at *;generalize dA ⟨ql,qb,qs⟩ ⟨pl,pb,ps⟩=a8 at *;obtain⟨x0,x1,x2,x3,x4,x5⟩:=q5 (dk c0) (dk c1) (dk c2) (dk e0) (dk e1) (dk e2);go_wp2;cases a7
   case true=>
    have aJ:=an (show en a b=(en (a.drop 1) b).map (⟨pl,pb,ps⟩::·)by rw[MS];simp);clear MS;refine vj ?_;repeat(go_big_quiet_step ((go_at_call 224;exact kH (l1 _ _ _ _ L1))))
    refine zs ?_;intro w4 d os hw4 up4;clear hw4;clear x0 x1 x2 x3 x4 x5;obtain⟨c0,c1,c2,o4,ad⟩:=yj (up4.cell c0) (up4.cell c1) (up4.cell c2) (HO.up up4) (upr.trans up4);go_wp2;go_region_law ((refine step_append_room pw rfl (.tmp 29) (.tmp 33) 88 rfl _ _ _ _ Aaq hy g T z _ HZ rfl (o4.up ((Up.refl _).drew.alloc _)) _ _ rfl (rU _ _ rfl _ _ _) (z+1) zf ae (bK ad.size ((Up.refl _).drew.alloc _).size) ?_;intro w5 aa _ ar));all_goals
     have ao:=(ad.drew.alloc _).aG ar (aE _);go_wp2;go_simp;exact⟨⟨_,_,_,_,_,⟨a.drop 1,b,out++[⟨pl,pb,ps⟩],aF,some ⟨bb,ob,none⟩,ka-1,kb,n',rfl,DA,RA,m,rfl,HM,HB,z+1,rfl,by rw[Aaf,HZ.out];rfl,aa,by have:=aK.out;omega,by rw[aD.out,aJ.out];cases en (a.drop 1) b<;>simp⟩,rfl,rfl,rfl,rfl,rfl⟩,by have:=aK.out;show n'<n;omega⟩
   case false=>
    refine vj ?_;repeat(go_big_quiet_step ((go_at_call 224;exact kH (l1 _ _ _ _ L1))))
    refine zs ?_;intro w4 d os hw4 up4;clear hw4;clear x0 x1 x2 x3 x4 x5;obtain⟨c0,c1,c2,e0,e1,e2⟩:=q5 (up4.cell c0) (up4.cell c1) (up4.cell c2) (up4.cell e0) (up4.cell e1) (up4.cell e2);obtain⟨x0,x1,x2,x3,x4,x5⟩:=q5 (dk c0) (dk c1) (dk c2) (dk e0) (dk e1) (dk e2);go_wp2;cases a8
    case false=>
     have aJ:=an (show en a b=none by rw[MS];simp);clear MS;refine vj ?_;repeat(go_big_quiet_step ((go_at_call 224;exact kH (l1 _ _ _ _ L2))))
     refine yY ?_;intro w5 av;obtain⟨⟨d,os⟩,hw4⟩:=av;have ao:Up w4 w5:=FV
     clear hw4;clear x0 x1 x2 x3 x4 x5;go_wp2;go_ret2;exact .inl ⟨by rw[aD.out,aJ.out];rfl,rfl,upr.trans (up4.trans ao)⟩
    case true=>
     have aJ:=an (show en a b=(en a (b.drop 1)).map (⟨ql,qb,qs⟩::·)by rw[MS];simp);clear MS;refine vj ?_;repeat(go_big_quiet_step ((go_at_call 224;exact kH (l1 _ _ _ _ L2))))
     refine yY ?_;intro w5 av;obtain⟨⟨d,os⟩,hw4⟩:=av;have ao:Up w4 w5:=FV
     clear hw4;clear x0 x1 x2 x3 x4 x5;obtain⟨e0,e1,e2,o5,al⟩:=yj (ao.cell e0) (ao.cell e1) (ao.cell e2) (HO.up (up4.trans ao)) (upr.trans (up4.trans ao));go_wp2;go_region_law ((refine step_append_room pw rfl (.tmp 45) (.tmp 49) 88 rfl _ _ _ _ Aaq hy g T z _ HZ rfl (o5.up ((Up.refl _).drew.alloc _)) _ _ rfl (rU _ _ rfl _ _ _) (z+1) zf ae (bK al.size ((Up.refl _).drew.alloc _).size) ?_;intro w6 aj _ aY));all_goals
      have aI:Up w w6:=(al.drew.alloc _).aG aY (aE _);go_wp2;go_simp;exact⟨⟨_,_,_,_,_,⟨a,b.drop 1,out++[⟨ql,qb,qs⟩],some ⟨ba,oa,none⟩,aT,ka,kb-1,n,rfl,HN,HA,m',rfl,DB,RB,z+1,rfl,by rw[Aaf,HZ.out];rfl,aj,by have:=aq.out;omega,by rw[aD.out,aJ.out];cases en a (b.drop 1)<;>simp⟩,rfl,rfl,rfl,rfl,rfl⟩,by have:=aq.out;show m'<m;omega⟩
  ·have Q:(decide ((0:Int)<(n:Int))=false/\decide (0<n)=false/\n=0)\/(decide ((0:Int)<(n:Int))=true/\decide (0<n)=true/\decide ((0:Int)<(m:Int))=false/\decide (0<m)=false/\m=0):=by
    by_cases ay:n=0
    ·exact .inl ⟨ab,ab,ay⟩
    ·exact .inr ⟨ab,ab,ab,ab,ae⟩
   have MF:en a b=some (a++b):=by
    rcases Q with⟨_,_,h⟩|⟨_,_,_,_,h⟩
    ·have:a=[]:=qt.1 (by have:=HN.out;omega);rw[this,rO];rfl
    ·have:b=[]:=qt.1 (by have:=HM.out;omega);rw[this,Bv,Ab1]
   have aW:=an MF;clear MF h0 hn hm;rcases Q with⟨q1,q2,hq⟩|⟨q1,q2,q3,q4,hq⟩
   all_goals
    clear hq;go_wp2_with(at_builtin;refine eU pw rfl (.tmp 53) (.tmp 54) 88 rfl _ _ _ _ Aaq hy g T z _ HZ rfl HO _ a rfl (aH.up HA upr) (z+n) (by rw[HZ.out,HN.out]) ae upr.size ?_);intro w5 aa _ ar;have ao:=upr.aG ar (aE _);go_wp2_with(at_builtin;refine eU pw rfl (.tmp 56) (.tmp 57) 88 rfl _ _ _ _ Aaq hy g T _ _ (by rw[Aaf,HZ.out,HN.out]) rfl aa _ b rfl (aH.up HB ao) T (by rw[Aaf];have:=HZ.out;have:=HN.out;have:=HM.out;omega) ae ao.size ?_);intro w6 aj _ aY;go_wp2;go_ret2;refine .inr ⟨_,_,?_,rfl,aj,ao.aG aY (aE _)⟩;rw[aD.out,aW.out];simp
theorem LJ{s:Nat->Nat}(h:∀j,64*m<=j->j<64*(m+1)->s j≠1):gR s m=0:=by unfold gR;rw[qt,List.filter_eq_nil_iff];grind
theorem uf{s:Nat->Nat}:∀n,(∀j,j<n->gR s j=0)->ha s (64*n)=0
 | 0,_=>by simp[ha]
 | n+1,h=>by rw[ue,uf n (λj hj=>h j ae),h n ae]
def ZK(s:Nat->Nat)(b:Nat)(w:af)(e:Ab2)(w':af):Prop:=(∃i:Nat,i<1024/\s i=1/\e=.returned (.tuple #[.int .i64 (i:Int),.int .i64 0])/\b' w' b (ff s i 2)/\Touch (·=b) w w')\/(bN s=0/\e=.returned (.tuple #[.int .i64 0,.int .i64 71])/\w=w')
theorem B9(w:af)(b:Nat)(s:Nat->Nat)(S:b' w b s):Aae Aag 157 #[pz b] w (ZK s b w):=by
 have HS:=an S;go_in;go_wp2_with refine cT 163 10 (x2 s) S.Zz (hi:=(AY s)) ?_;go_loop [4,12] (λm i=>∃k q:Nat,k<=16/\q<16/\i=i6 k/\m=i6 q/\∀j,j<k->gR s j<=gR s q) (λ_ i=>16-(Aau i).toNat)
 case atStart=>exact⟨0,0,ae,ae,rfl,rfl,λj hj=>ae⟩
 case round=>
  obtain⟨k,q,hk,hq,rfl,rfl,ad⟩:=hrel;have HA:=an ad;clear ad;by_cases hlt:k<16
  ·obtain⟨ix,c0⟩:=az ((AU s) k hlt) (HS.room hq);have b2:((k:Int)<16)=True:=by simp;omega
   have b3:((q:Int)<16)=True:=ab
   have HK:=an (show ∀j,j<k+1->j<k\/j=k from λj hj=>ae);generalize hx:gR s k=x at *;generalize hy:gR s q=y at *;obtain⟨HX,HY⟩:=aw hx hy;clear hx hy;by_cases bK:y<x
   ·have t1:decide (y<x)=true:=by simp;omega
    have t2:decide ((y:Int)<(x:Int))=true:=ab
    go_wp2;go_round
    case rel=>exact⟨k+1,k,ae,hlt,aq,rfl,λj hj=>by
     rw[HX.out];rcases HK.out j hj with h|rfl
     ·have:=HA j h;omega
     ·rw[HX.out];exact aE _⟩
    case measure=>simp[Aau];omega
   ·have t1:decide (y<x)=false:=by simp;omega
    have t2:decide ((y:Int)<(x:Int))=false:=ab
    go_wp2;go_round
    case rel=>exact⟨k+1,q,ae,hq,aq,rfl,λj hj=>by
     rw[HY.out];rcases HK.out j hj with h|rfl
     ·have:=HA j h;exact this
     ·rw[HX.out];omega⟩
    case measure=>simp[Aau];omega
  ·obtain rfl:k=16:=by omega
   have b2:((16:Nat):Int)=16:=rfl;have t1:IntKind.i64.wrap ((q:Int)*64)=((64*q:Nat):Int):=by rw[show(q:Int)*64=((64*q:Nat):Int)from ae];exact aX _ ae
   go_wp2;go_loop [7] (λi=>∃k:Nat,64*q<=k/\k<=64*(q+1)/\i=i6 k/\∀j,64*q<=j->j<k->s j≠1) (λi=>64*(q+1)-(Aau i).toNat)
   case atStart=>exact⟨64*q,ae,ae,gO,λj h1 h2=>ae⟩
   case round=>
    obtain⟨k,aj,ao,rfl,ay⟩:=hrel;have HN:=an ay;clear ay t1;have t3:IntKind.i64.wrap ((q:Int)+1)=((q+1:Nat):Int):=by rw[show(q:Int)+1=((q+1:Nat):Int)from ae];exact aX _ ae
    by_cases hlt:k<64*(q+1)
    ·have t5:decide ((k:Int)<((q:Int)+1)*64)=true:=by simp;omega
     have I:=zO w b s HS k 1;rw[rB s k 1 ae]at I;by_cases h3:s k=1
     ·rw[h3]at I;have H3:=an h3;clear h3;go_wp2_with fail;refine I.mono ?_;rintro e w1⟨rfl,rfl⟩;go_wp2_with fail;refine(vS w b s HS k 2 ae).mono ?_;rintro e w1⟨rfl,S1,T1⟩;go_wp2;go_ret2;exact .inl ⟨k,ae,H3,rfl,S1,T1⟩
     ·rw[jj h3]at I;have H3:=an h3;clear h3;go_wp2_with fail;refine I.mono ?_;rintro e w1⟨rfl,rfl⟩;go_wp2;go_round
      case rel=>exact⟨k+1,ae,ae,aq,λj h1 h2=>by
       by_cases e:j=k
       ·subst e;exact H3
       ·exact HN j h1 ae⟩
      case measure=>simp[Aau];omega
    ·obtain rfl:k=64*(q+1):=by omega
     have t5:decide (((64*(q+1):Nat):Int)<((q:Int)+1)*64)=false:=ab
     go_wp2;go_ret2;refine .inr ⟨?_,rfl,rfl⟩;refine uf 16 (λj hj=>?_);have:=HA j hj;rw[LJ HN.out]at this;omega
theorem Am{s:Nat->Nat}(hi:i<1024)(h:s i=1):bN (ff s i 2)+1=bN s:=by have:=AG (n:=1024) (λk=>decide (ff s i 2 k=1)) (λk=>decide (s k=1)) i (λk hk=>by simp[ff,hk]);grind [ff,bN,ha]
def fk(s:Nat->Nat)(l:List Nat):Nat->Nat:=λi=>if i∈l then 2 else s i
theorem Jq(s:Nat->Nat)(l:List Nat)(i:Nat):ff (fk s l) i 2=fk s (l++[i]):=by grind [ff,fk]
def QW(n:Nat):ah:=.int .i64 (n:Int)
def VG(n:Nat):(QW n).oneCell'=true:=rfl
theorem Touch.hp{F:Nat->Prop}{w w1 w2:af}(T:Touch F w w1){row:Option Nat}(hg:w1.grownBy w2 row)(hr:∀k,row=some k->w.heap.size<=k):Touch F w w2:=⟨by rw[hg.os,T.os],by rw[hg.tape,T.tape],by rw[hg.output,T.output],bK T.size hg.size,λk hk hF=>by
  rw[hg.block k (ej hk T.size) (λe=>aQ),T.block k hk hF]⟩
def Touch.iZ{F:Nat->Prop}{w w1 w2:af}(T:Touch F w w1)(U:Up w1 w2):Touch F w w2:=T.trans (Touch.bP (F:=F) U) (λ_ h _=>h)
theorem Own.ax{f:α->ah}{w w':af}{v:ah}{xs:List α}(h:Own f e w base v xs){F:Nat->Prop}(ht:Touch F w w')(hf:∀b,v.ownBlock=some b->¬F b):Own f e w' base v xs:=by
 obtain⟨h1,h2⟩:=h;refine⟨h1,?_⟩;rcases h2 with h2|⟨g,cap,cur,hv,hg,hh,r⟩
 ·simp_all
 ·have hlt:g<w.heap.size:=(qv.1 hh).1;exact OI
def aa0(s:Nat->Nat)(b n:Nat)(w:af)(e:Ab2)(w':af):Prop:=(bN s<n/\e=.returned (.tuple #[.slice none 0 0,.int .i64 71])/\w=w')\/(n<=bN s/\∃(l:List Nat)(v:ah),κ l=n/\l.Nodup/\(∀i∈l,i<1024/\s i=1)/\e=.returned (.tuple #[v,.int .i64 0])/\Own QW 3 w' w.heap.size v l/\b' w' b (fk s l)/\Touch (·=b) w w')
def Dl(s:Nat->Nat):bN s<=1024:=An s 1024
theorem RP(w:af)(b:Nat)(s:Nat->Nat)(S:b' w b s)(n:Nat)(hn:n<=100000):Aae Aag 213 #[pz b,i6 (n:Int)] w (aa0 s b n w):=by
 obtain⟨HC,HS⟩:=aw (kT w b s S) S;obtain⟨hc,aB⟩:=az (Dl s) (a7.lt S);generalize al:bN s=c at *;have a1:=an al;clear al;by_cases hlt:c<n
 ·have t1:decide (c<n)=true:=by simp;omega
  have t2:decide ((c:Int)<(n:Int))=true:=ab
  go_in;go_wp2_with fail;refine HC.mono ?_;rintro e w1⟨rfl,rfl⟩;go_wp2;go_ret2;exact .inl ⟨di,rfl,rfl⟩
 ·have t1:decide (c<n)=false:=by simp;omega
  have t2:decide ((c:Int)<(n:Int))=false:=ab
  go_in;go_wp2_with fail;refine HC.mono ?_;rintro e w1⟨rfl,rfl⟩;go_wp2;clear t1 t2;go_loopw [6] (λv wr=>∃l:List Nat,κ l<=n/\l.Nodup/\(∀i∈l,i<1024/\s i=1)/\bN (fk s l)+κ l=c/\Own QW 3 wr w.heap.size v l/\b' wr b (fk s l)/\Touch (·=b) w wr) (λv _=>n-T3 v)
  case atStart=>exact⟨[],aq,aq,aq,cj,Own.nil _ _ _ _,cj,Touch.refl _ _⟩
  case round=>
   obtain⟨l,hl,aK,aR,aP,hown,hS,ht⟩:=hrel;obtain⟨ah,bD⟩:=aw aR aP;clear aR aP;obtain⟨va,vc,rfl⟩:=(Own.cu hown).slice;by_cases hk:κ l<n
   ·have b2:decide (κ l<n)=true:=by simp;omega
    have b3:decide ((κ l:Int)<(n:Int))=true:=ab
    go_wp2_with fail;refine(B9 _ b _ hS).mono ?_;rintro e w1(⟨i,hi,ad,rfl,S1,T1⟩|⟨h0,_,_⟩)
    ·have aH:¬i∈l:=λh=>by unfold fk at ad;rw[bI h]at ad;cases ad
     have ak:s i=1:=by unfold fk at ad;rwa [aY aH]at ad
     have ag:=Am hi ad;rw[Jq]at S1 ag;obtain⟨ao,aT,aj⟩:=aV ag aH ak;have aO:=λk hk=>(hown.aJ k hk).1;obtain⟨bl,aM⟩:=aw (ht.trans T1 (λn h _=>h)) aO;clear ag ad aH ak;have n1:(κ l + [i].length)*8<=140737488355328:=ab
     have n2:κ l + [i].length<=9223372036854775807:=ae
     have n3:w.heap.size<=(w1.alloc (.cells #[i6 (i:Int)] 3)).heap.size:=by rw[Aa3];have:=bl.size;omega
     go_wp2_with(at_builtin;refine bu QW VG rfl (.tmp 25) (.tmp 27) 41 rfl w.heap.size 3 (i6 0) 8 underlying41 AX rfl _ l rfl ((Own.ax hown T1 (λk hk e=>aQ)).up (ai w1 _)) (cD w1.heap.size 1 1) [i] rfl (aD.lit w1 #[i6 (i:Int)] 3 (0,0) [i] 1 rfl av rfl) n1 n2 n3 ?_);intro v6 w6 aa ay aL;obtain⟨a8,bb,rfl⟩:=(Own.cu aa).slice;go_wp2;go_roundw
     case rel=>exact⟨l++[i],ab,by rw[uN];exact⟨aK,aq,λx hx y hy=>by simp at hy;subst hy;rintro rfl;exact aT hx⟩,λx hx=>by
      rcases Aa8.1 hx with h|h
      ·exact ah x h
      ·simp at h;subst h;exact⟨hi,aj⟩,by have:=ao.out;have:=bD.out;simp;omega,aa,(a7.grown (a7.up S1 (ai _ _)) ay (λe=>aQ)),((bl.iZ (ai _ _)).hp ay aM)⟩
     case measure=>simp[T3];omega
    ·simp only[Hid]at *;omega
   ·have b2:decide (κ l<n)=false:=by simp;omega
    have b3:decide ((κ l:Int)<(n:Int))=false:=ab
    go_wp2;go_ret2;exact .inr ⟨di,l,_,ae,aK,ah,rfl,hown,hS,ht⟩
def nA(s:Nat->Nat)(x n:Nat):List Int:=((Aak n).filter (λi=>decide (s i=x))).map (λi:Nat=>(i:Int))
theorem Q8{s:Nat->Nat}{x n:Nat}(h:s n=x):nA s x (n+1)=nA s x n++[(n:Int)]:=Uf
theorem VR{s:Nat->Nat}{x n:Nat}(h:s n≠x):nA s x (n+1)=nA s x n:=Uf
theorem GH(s:Nat->Nat)(x n:Nat):κ (nA s x n)<=n:=by grind [nA]
def qW(s:Nat->Nat)(x:Nat):List bM:=j6 (nA s x 1024)
theorem We(w:af)(b:Nat)(s:Nat->Nat)(S:b' w b s)(x:Nat):Aae Aag 280 #[pz b,.int .u8 (x:Int)] w λe w'=>∃u,e=.returned u/\hX w' w.heap.size u (qW s x)/\Up w w':=by
 have HS:=an S;go_in;go_wp2;go_loopw [5,7] (λv i wr=>∃k:Nat,k<=1024/\i=i6 k/\Own bC 3 wr w.heap.size v (nA s x k)/\Up w wr) (λ_ i _=>1024-(Aau i).toNat)
 case atStart=>exact⟨0,ae,rfl,Own.nil _ _ _ _,Up.refl _⟩
 case round=>
  obtain⟨k,hk,rfl,hown,upr⟩:=hrel;obtain⟨HOWN,UR⟩:=aw hown upr;have aU:=GH s x k;obtain⟨va,vc,rfl⟩:=(Own.cu HOWN).slice;by_cases hlt:k<1024
  ·have I:=zO wr b _ (HS.up UR) k x;rw[rB _ k x hlt]at I;have b2:((k:Int)<1024)=True:=by simp;omega
   by_cases h3:s k=x
   ·rw[h8 h3]at I;have HN:=an (Q8 h3);clear h3;generalize nA s x k=l at *;have n1:(κ l + [(k:Int)].length)*8<=140737488355328:=by simp;omega
    have n2:κ l + [(k:Int)].length<=9223372036854775807:=ae
    have n3:w.heap.size<=(wr.alloc (.cells #[i6 (k:Int)] 3)).heap.size:=by rw[Aa3];have:=UR.size;omega
    go_wp2_with fail;refine I.mono ?_;rintro e w1⟨rfl,rfl⟩;go_wp2_with(at_builtin;refine bu bC qm rfl (.tmp 14) (.tmp 16) 41 rfl w.heap.size 3 (i6 0) 8 underlying41 AX rfl _ l rfl (HOWN.up (ai wr _)) (cD wr.heap.size 1 1) [(k:Int)] rfl (aD.lit wr #[i6 (k:Int)] 3 (0,0) [(k:Int)] 1 rfl av rfl) n1 n2 n3 ?_);intro v6 w6 aa ay aL;have HO:=an aa;go_wp2;go_roundw
    case rel=>exact⟨k+1,ae,aq,by rw[HN.out];exact HO,((UR.trans (ai wr _)).aG aL (aE _))⟩
    case measure=>simp[Aau];omega
   ·rw[jj h3]at I;have HN:=an (VR h3);clear h3;generalize nA s x k=l at *;go_wp2_with fail;refine I.mono ?_;rintro e w1⟨rfl,rfl⟩;go_wp2;go_roundw
    case rel=>exact⟨k+1,ae,aq,by rw[HN.out];exact HOWN,UR⟩
    case measure=>simp[Aau];omega
  ·obtain rfl:k=1024:=by omega
   have b2:((1024:Nat):Int)=1024:=rfl;have O:=an (tJ wr _ _ (Own.cu HOWN));clear aU;generalize hl:nA s x 1024=l at *;have HL:=an hl;clear hl;go_wp2_with fail;refine O.mono ?_;rintro e w1⟨u,rfl,own,up1⟩;go_wp2_with fail;go_ret;exact⟨_,rfl,by unfold qW;rw[HL.out];exact own.mono UR.size,UR.trans up1⟩
theorem Cl(w:af)(b:Nat)(s:Nat->Nat)(S:b' w b s):Aae Aag 258 #[pz b] w λe w'=>∃u,e=.returned u/\hX w' w.heap.size u (qW s 2)/\Up w w':=by have HS:=an (We w b s S 2);go_in;go_wp2_with fail;refine HS.mono ?_;rintro e w1⟨u,rfl,own,up1⟩;go_wp2;go_ret;exact⟨_,rfl,own,up1⟩
def gB:Int->List bM->Int
 | e,[]=>e
 | _,s::l=>gB (s.st+s.len) l
theorem j4:∀(e:Int)(l m:List bM),ck e (l++m)=(ck e l && ck (gB e l) m)
 | e,[],m=>by simp[ck,gB]
 | e,s::l,m=>by simp only[Aa2,ck,gB];rw[j4 (s.st+s.len) l m];simp only[Bool.and_assoc]
def fZ:∀(e:Int)(l:List bM)(s:bM),gB e (l++[s])=s.st+s.len
 | e,[],s=>rfl
 | e,t::l,s=>fZ _ l s
theorem qK(l:List bM)(s:bM):cW (l++[s])=cW l++(Aak s.len.toNat).map (λk:Nat=>s.st+(k:Int)):=by simp[cW]
theorem C'(l:List bM)(s:bM)(n:Nat):sc (l++[s]) n=if s.st+s.len=(n:Int)then l++[⟨s.st,s.len+1⟩] else l++[s]++[⟨n,1⟩]:=by simp[sc]
theorem jD(f:Nat->Bool):∀n,n<=4096->ck (-1) (aB f n)=true/\gB (-1) (aB f n)<=n/\cW (aB f n)=((Aak n).filter f).map (λi:Nat=>(i:Int))
 | 0,_=>by simp[aB,ck,gB,cW]
 | n+1,hn=>by
  obtain⟨h1,h2,h3⟩:=jD f n ae;rw[aB,Ab5,kD,Aar];by_cases hf:f n=true
  ·rw[bI hf];rw[show [n].filter f=[n] by simp[hf]];rcases Fs (aB f n)with hl|⟨l,s,hl⟩
   ·rw[hl]at h3 ⊢;rw[<-h3];have e:sc [] n=[⟨(n:Int),1⟩]:=rfl;rw[e];refine⟨?_,by simp[gB],by simp[cW]⟩;simp[ck,gE];omega
   ·rw[Ft]at hl;rw[hl]at h1 h2 h3 ⊢;rw[j4,Abe]at h1;obtain⟨h4,h5⟩:=h1;rw[fZ]at h2;simp only[ck,Bool.and_true,Abe,decide_eq_true_eq]at h5;obtain⟨h6,h7⟩:=h5;have h8:=(d' s.st s.len).1 h6;rw[C',<-h3];by_cases he:s.st+s.len=(n:Int)
    ·rw[bI he];refine⟨?_,by rw[fZ];simp only;omega,?_⟩
     ·rw[j4,Abe];refine⟨h4,?_⟩;simp only[ck,Bool.and_true,Abe,decide_eq_true_eq];exact⟨(d' _ _).2 ae,h7⟩
     ·rw[qK,qK];simp only;rw[show(s.len+1).toNat=s.len.toNat+1 from ae,Ab5,Aar,Aa9];congr 2;simp;omega
    ·rw[aY he];refine⟨?_,by rw[fZ];simp,?_⟩
     ·rw[j4,j4,fZ,h4];simp only[ck,Bool.true_and,Bool.and_true,Abe,decide_eq_true_eq];exact⟨⟨h6,h7⟩,(d' _ _).2 ae,ae⟩
     ·rw[qK];simp
  ·rw[aY hf];rw[show [n].filter f=[] by simp[hf]];exact⟨h1,ae,by rw[h3];simp⟩
theorem qp(f:Nat->Bool):cG (aB f 4096)=((Aak 4096).filter f).map (λi:Nat=>(i:Int)):=by simp[jD,cG]
theorem TO(s:Nat->Nat)(x i:Nat):sx (nA s x 1024) i=decide (i<1024/\s i=x):=by grind [sx,nA]
theorem r5(s:Nat->Nat)(x:Nat):qW s x=aB (λi=>decide (i<1024/\s i=x)) 4096:=by unfold qW j6;congr 1;grind [TO]
theorem EX(s:Nat->Nat)(x:Nat)(n:Int):n∈cG (qW s x)↔∃i:Nat,n=i/\i<1024/\s i=x:=by grind [r5,qp]
theorem TM{l:List Int}(hs:l.Pairwise (· < ·)){n:Int}(hn:n∈l):Ia l n=true:=by
 unfold Ia;cases h:l.find? (λk=>decide (n<=k))with
 | none=>grind
 | some k=>
  simp only[beq_iff_eq];obtain⟨hk,ms,bs,hl,ay⟩:=List.find?_eq_some_iff_append.1 h;simp only[decide_eq_true_eq]at hk;rw[hl]at hn hs;rcases Aa8.1 hn with h1|h1
  ·grind
  ·rcases Aam.1 h1 with h1|h1
   ·omega
   ·have:=(gl.1 (Bj.1 hs).2.1).1 n h1;omega
theorem uG(f:Nat->Bool):(cG (aB f 4096)).Pairwise (· < ·):=by rw[qp,List.pairwise_map];refine List.Pairwise.imp (R:=λa b:Nat=>a<b) (λh=>ae) ?_;exact List.Pairwise.filter _ List.pairwise_lt_range
section
open Go.Shelf
attribute [local go_sem] kI
def oO(a b:List Int)(i:Nat):Bool:=sx a i && !sx b i
theorem P9(a b:List Int)(x:Int)(i:Nat):oO a (b++[x]) i=(if(i:Int)=x then false else oO a b i):=by grind [oO,AS]
theorem yd(w:af)(va vb:ah)(la lb:List bM)(ha:dX w va la)(ar:∀a m c,va=.slice (some a) m c->a.block<w.heap.size)(hv:dX w vb lb)(hb:∀a m c,vb=.slice (some a) m c->a.block<w.heap.size):Aae Aag 289 #[va,vb] w λe w'=>∃u,e=.returned u/\hX w' w.heap.size u (aB (oO (cG la) (cG lb)) 4096)/\Up w w':=by
 obtain⟨a1,ao,rfl⟩:=ha.slice;obtain⟨a,cap,rfl⟩:=hv.slice;refine rJ ?_;intro h1;refine oZ func289 rfl trivial ?_ rfl;simp only[ntmps289,Abh,Aaj,Aa4,Nat.reduceAdd,Nat.reduceSub,Aa6,Aa7,Abj,Aba,Aaz,Aa2];gi_wp2_with(refine⟨trivial,?_⟩;first|(gi_at_call 228;refine(fG.2 (uq _ _ _ _)).mono ?_;rintro e w' ⟨rfl,rfl⟩)|(gi_at_call 295;refine(fG.2 (G6 w _ la ha ar)).mono ?_;rintro e w1 ⟨rfl,hM,up1⟩));have aF:w.heap.size<w1.heap.size:=hM.lt;obtain⟨c1,c2⟩:=az (dp w1 (pz w.heap.size) 288) (dp (w1.alloc (.cells #[pz w.heap.size] 288)) (.slice a (κ lb) cap) 63);simp only[Aa3]at c2;have aD:Up w1 ((w1.alloc (.cells #[pz w.heap.size] 288)).alloc (.cells #[.slice a (κ lb) cap] 63)):=(ai _ _).alloc _;have ad:pY ((w1.alloc (.cells #[pz w.heap.size] 288)).alloc (.cells #[.slice a (κ lb) cap] 63)) w.heap.size (oO (cG la) []):=a7.congr (hM.up aD) (λi _=>by simp[oO,sx]);have ay:Below w.heap.size w ((w1.alloc (.cells #[pz w.heap.size] 288)).alloc (.cells #[.slice a (κ lb) cap] 63)):=up1.trans aD;refine wL (F:=Abv) rfl h1 (gf:=264) (lb:=#[pz (w1.heap.size+1)]) rfl trivial (enters_of func264 aA rfl) (xA 5 ae (w1.heap.size+1) w.heap.size _ lb _ aq c2.1 (aH.up hv ay) hb) c'.trans jM (e6 _ _) (λ_=>rfl) (λpre W=>(W.cell? ⟨w1.heap.size,0,none⟩=some (pz w.heap.size)/\pY W w.heap.size (oO (cG la) (pre.map (·.1))))/\Below w.heap.size w W) (λ_ _ _=>False) (nP (nP (Own.from (λs A B row hs hg hr=>lz hs hg hr) _) (Own.from (xr w.heap.size 4096 212 (λ(pre:List Num) i=>.bool (oO (cG la) (pre.map (·.1)) i))) _)) (o0 (aE _) ab)) (λ_ _ _ _ _ hs _ _=>hs) ⟨⟨bF _ c1.1,ad⟩,ay⟩ (λx=>{tmps:=#[.slice a1 (κ la) ao,.slice a (κ lb) cap,Aas,Aas,nl,pz w1.heap.size,i6 x.1,.slice a1 (κ la) ao,pz w.heap.size,.slice a (κ lb) cap,.func (.func 264) #[] #[pz (w1.heap.size+1)],i6 x.1,Aas,Aas,Aas,Aas,Aas,Aas],defers:=[]}) ?assign ?body ?done ?stop
 case assign=>exact lP
 case body=>
  rintro l' pre⟨x,aa,aX⟩W⟨⟨hp,hI⟩,hB⟩_;obtain⟨n,rfl⟩:=ji aa;have hn:n<4096:=ae
  obtain⟨c0,f0⟩:=az (hI.cell hn) (hI.free n);gi_wp2;refine⟨qz _ _ _,A7 hI (λh=>h.elim (λh=>ae) av) _ _,⟨?_,a7.congr (hI.set hn (.bool false)) (λi hi=>by rw[Aar,y6,P9];by_cases e:i=n<;>simp[e];intro h;omega)⟩,hB.setCell (p:=⟨w.heap.size,n,none⟩) (aE _) _⟩;exact(World.cell?_setCell_other _ _ _ _ aq).trans hp
 case done=>rintro D ys W hD aG⟨⟨hp,hI⟩,hB⟩hK;rw[aG]at hI;gi_wp2_with(refine⟨trivial,?_⟩;gi_at_call 123;refine(fG.2 (Ed W w.heap.size _ hI)).mono ?_;rintro e w9 ⟨u,rfl,own,aj⟩);have al:D<W.heap.size:=(qv.1 hK).1;have ag:w9.heap[D]?=some (.deferred (some [])):=(oV aj D al).trans hK;refine⟨aq,.inl ⟨_,_,rfl,Fo ag,?_⟩⟩;refine⟨_,te rfl _ _ _,u,rfl,ak.mono (ownsRow_putObj own _ ag rfl) hB.size,(hB.trans (aj.mono hB.size)).trans (o1 (w:=w) (aE _) w9 D _ _ qB ag rfl rfl)⟩
 case stop=>simp
end
def toStr(w:af)(v:ah)(l:List aj)(h:a8 w v l):(convert 30 9 v).run Aag w=.ok (.string (strOf l)) w:=lK 30 5 Aa0 underlying5 9 underlying9 w v l h
theorem TH(p:au)(hp:p.wf)(hg:cA p=true):nB kh (BX p)/\p.loc=(p.loc.toNat:Int):=by obtain⟨l,b,s⟩:=p;obtain⟨n,rfl,hn⟩:=H9 hg;exact⟨DR n b s hn hp.2.1 hp.2.2,aq⟩
theorem nE(p:au)(hp:p.wf)(hg:cA p=true):mu (bR p)=some p:=by
 have h1:=TH p hp hg;have hl:κ (bR p)=16:=aA
 have h2:c8 kh (bR p)=BX p:=rm kh (BX p) h1.1.1 h1.1.2.2;rw[qg _ hl]at h2;have h3:mq (bR p)=p:=by obtain⟨l,b,s⟩:=p;grind [BX,mq]
 grind [mu]
theorem HH(l:List aj)(p:au)(h:mu l=some p):p.wf/\cA p=true/\bR p=l:=by
 unfold mu at h;split at h
 ·rename_i hh;simp only[Aai]at h;subst h;refine NW ?_;intro q1 q2 q3;refine⟨⟨⟨?_,?_⟩,q2,q3⟩,hh.2,?_⟩
  ·simp[mq]
  ·grind [mq]
  ·have h3:=Pa kh l (by rw[hh.1];rfl);grind [qg,bR,BX,mq]
 ·cases h
structure hT where
 dz:Nat
 ay:Nat
 iV:au
 len:Int
 sec:Int
deriving DecidableEq
def hT.wf(u:hT):Prop:=u.dz<18446744073709551616/\u.ay<18446744073709551616/\u.iV.wf/\(-9223372036854775808<=u.len/\u.len<=9223372036854775807)/\(-9223372036854775808<=u.sec/\u.sec<=9223372036854775807)
def uC(u:hT):Array ah:=#[.int .u64 (u.dz:Int),.int .u64 (u.ay:Int),.int .i64 u.iV.loc,.int .u64 (u.iV.aU:Int),.int .u32 (u.iV.sum:Int),.int .i64 u.len,.int .i64 u.sec]
def fR(u:hT):List ah:=(uC u).toList
def Y1(u:hT):(uC u).size=7:=rfl
theorem xd(u:hT):(uC u).all (·.oneCell')=true:=by simp[uC,Value.oneCell']
theorem uw:hh fR 7:=⟨ae,λ_=>rfl,λu v hv=>by have:=xd u;rw[Fh]at this;exact this v (by grind [fR])⟩
theorem EO(u:hT):(prog.info? 122).map (·.size)=some (uC u).size:=aA
theorem yl{dz ay:Nat}{iV:au}{len sec:Int}(h:aF w g t (uC ⟨dz,ay,iV,len,sec⟩)):w.cell? (ad g 0)=some (u6 (dz:Int))/\w.cell? (ad g 1)=some (u6 (ay:Int))/\w.cell? (ad g 2)=some (i6 iV.loc)/\w.cell? (ad g 5)=some (i6 len)/\w.cell? (ad g 6)=some (i6 sec)/\Hid (w.rangeAt g 2 (be iV).toList):=⟨jS,jS,jS,jS,jS,an λj v hj=>by
  rw[h.cell];match j,hj with
  | 0,hj=>exact hj
  | 1,hj=>exact hj
  | 2,hj=>exact hj
  | (n+3),hj=>simp[be]at hj⟩
def eT(u:hT):Bool:=decide (1<=u.dz) && decide (u.dz<=281474976710655) && decide (1<=u.ay) && decide (u.ay<=281474976710655) && cA u.iV && !decide (u.iV=hole) && decide (1<=u.len) && decide (u.len<=65535) && decide (64<=u.sec) && decide (u.sec<=1024)
theorem kQ(u:hT):eT u=true↔(1<=u.dz/\u.dz<=281474976710655)/\(1<=u.ay/\u.ay<=281474976710655)/\(cA u.iV=true/\u.iV≠hole)/\(1<=u.len/\u.len<=65535)/\(64<=u.sec/\u.sec<=1024):=by grind [eT]
theorem Me(w:af)(u:hT):Aae Aag 261 #[.agg (uC u)] w λe w'=>kk (eT u) w e w':=by
 obtain⟨B1,U1,PR,IFF⟩:=bW (aF.new w 122 (uC u)) (ai w (.cells (uC u) 122)) (λW=>oj W u.iV) (kQ u);obtain⟨dz,ay,iV,len,sec⟩:=u;dsimp only at PR IFF;have PV:fI iV=.agg (be iV):=rfl;rw[PV]at PR;clear PV;obtain⟨c0,c1,c2,c5,c6,R2⟩:=yl B1;by_cases h0:1<=dz;rotate_left
 ·have b0:((1:Int)<=(dz:Int))=False:=by simp;omega
  have HF:=an (show eT ⟨dz,ay,iV,len,sec⟩=false by refine dZ ?_;intro hh;exact absurd hh.1.1 ae)
  exact zt
 have b0:((1:Int)<=(dz:Int))=True:=ab
 by_cases h1:dz<=281474976710655;rotate_left
 ·have b1:((dz:Int)<=(281474976710655:Int))=False:=by simp;omega
  have HF:=an (show eT ⟨dz,ay,iV,len,sec⟩=false by refine dZ ?_;intro hh;exact absurd hh.1.2 ae)
  exact zt
 have b1:((dz:Int)<=(281474976710655:Int))=True:=ab
 by_cases h2:1<=ay;rotate_left
 ·have b2:((1:Int)<=(ay:Int))=False:=by simp;omega
  have HF:=an (show eT ⟨dz,ay,iV,len,sec⟩=false by refine dZ ?_;intro hh;exact absurd hh.2.1.1 ae)
  exact zt
 have b2:((1:Int)<=(ay:Int))=True:=ab
 by_cases h3:ay<=281474976710655;rotate_left
 ·have b3:((ay:Int)<=(281474976710655:Int))=False:=by simp;omega
  have HF:=an (show eT ⟨dz,ay,iV,len,sec⟩=false by refine dZ ?_;intro hh;exact absurd hh.2.1.2 ae)
  exact zt
 have b3:((ay:Int)<=(281474976710655:Int))=True:=ab
 go_in;go_wp2_with(refine arm ?_);refine(PR _).mono ?_;rintro e w2⟨rfl,U2⟩;have U3:=an (U1.trans U2);clear c0 c1 c2 c5 c6;obtain⟨c0,c1,c2,c5,c6,R2⟩:=yl (B1.up U2);clear PR;cases hg:cA iV
 ·have HF:=an (show eT ⟨dz,ay,iV,len,sec⟩=false by refine dZ ?_;intro hh;have:=hh.2.2.1.1;rw[hg]at this;cases this)
  clear hg;go_wp2;go_ret;exact⟨Bp,U3⟩
 have HG:=an hg;clear hg;have EQ:∀W:af,(Ach 10000 87 (.agg (be iV)) (.agg #[i6 0,u6 0,.int .u32 0])).run Aag W=.ok (decide (iV=hole)) W:=λW=>zM 9998 iV hole W;by_cases hh:iV=hole
 ·have HF:=an (show eT ⟨dz,ay,iV,len,sec⟩=false by rw[<-uJ,IFF.out];intro h;exact h.2.2.1.2 hh)
  rw[h8 hh]at EQ;clear hh;exact rI
 have HH:=an hh;rw[jj hh]at EQ;clear hh;by_cases h4:1<=len;rotate_left
 ·have b4:((1:Int)<=len)=False:=by simp;omega
  have HF:=an (show eT ⟨dz,ay,iV,len,sec⟩=false by refine dZ ?_;intro hh;exact absurd hh.2.2.2.1.1 ae)
  exact rI
 have b4:((1:Int)<=len)=True:=ab
 by_cases h5:len<=65535;rotate_left
 ·have b5:(len<=65535)=False:=by simp;omega
  have HF:=an (show eT ⟨dz,ay,iV,len,sec⟩=false by refine dZ ?_;intro hh;exact absurd hh.2.2.2.1.2 ae)
  exact rI
 have b5:(len<=65535)=True:=ab
 by_cases h6:64<=sec;rotate_left
 ·have b6:((64:Int)<=sec)=False:=by simp;omega
  have HF:=an (show eT ⟨dz,ay,iV,len,sec⟩=false by refine dZ ?_;intro hh;exact absurd hh.2.2.2.2.1 ae)
  exact rI
 have b6:((64:Int)<=sec)=True:=ab
 by_cases h7:sec<=1024;rotate_left
 ·have b7:(sec<=1024)=False:=by simp;omega
  have HF:=an (show eT ⟨dz,ay,iV,len,sec⟩=false by refine dZ ?_;intro hh;exact absurd hh.2.2.2.2.2 ae)
  exact rI
 have b7:(sec<=1024)=True:=ab
 have HF:=an (show eT ⟨dz,ay,iV,len,sec⟩=true from IFF.2 ⟨⟨h0,h1⟩,⟨h2,h3⟩,⟨HG,HH⟩,⟨h4,h5⟩,⟨h6,h7⟩⟩);exact rI
def p4(n:Nat):Nat:=if n%2=1 then(n/2)^^^2197175160 else n/2
def mX:Nat->Nat->Nat
 | 0,n=>n
 | k+1,n=>p4 (mX k n)
def rk(n:Nat)(c:aj):Nat:=mX 8 (n^^^c.toNat)
def i'(n:Nat)(l:List aj):Nat:=l.foldl rk n
def gA(s:Nat)(l:List aj):Nat:=4294967295-i' (4294967295-s) l
theorem P3(h:n<4294967296):p4 n<4294967296:=by
 unfold p4;split
 ·have:(n/2)^^^2197175160<2 ^ 32:=Fj ae ae;omega
 ·omega
theorem Ao(k:Nat)(h:n<4294967296):mX k n<4294967296:=by
 induction k with
 | zero=>exact h
 | succ k ih=>exact P3 ih
theorem J'(c:aj)(h:n<4294967296):rk n c<4294967296:=by unfold rk;have hc:=c.toNat_lt;have:n^^^c.toNat<2 ^ 32:=Fj ae ae;grind [Ao]
theorem Ka(l:List aj):∀{n:Nat},n<4294967296->i' n l<4294967296:=by
 induction l with
 | nil=>exact λh=>h
 | cons c l ih=>exact λh=>ih (J' c h)
theorem EE(n:Nat)(l:List aj)(c:aj):i' n (l++[c])=rk (i' n l) c:=by simp[i']
theorem Kb(s:Nat)(l:List aj):gA s l<4294967296:=by grind [gA]
theorem He:IntKind.u32.max=4294967295:=av
theorem R0(l:List α)(k:Nat)(h:k<κ l):l.take (k+1)=l.take k++[l[k]]:=aq
theorem Xj(n:Nat):n&&&1=n%2:=aq
theorem QU(s:Nat)(hs:s<4294967296)(l:List aj)(b off cap:Nat)(w:af)(hl:κ l<=9223372036854775807)(hc:∀i(h:i<κ l),w.cell? (ad b (off+i))=some (.int .u8 (l[i].toNat:Int))):Aae Aag 231 #[.int .u32 (s:Int),sq b off (κ l) cap] w λe w'=>e=.returned (.int .u32 (gA s l:Nat))/\w=w':=by
 have Hc:=an hc;clear hc;obtain⟨n0,ay⟩:=bE (4294967295-s);have ah:n0<4294967296:=ae
 have e0:bits .xor .u32 IntKind.u32.max (s:Int)=(n0:Int):=by rw[He,ay];exact zR s hs
 have au:=an ay;clear ay;go_in;go_wp2;clear e0;go_loop [0,12] (λr i=>∃k:Nat,k<=κ l/\i=i6 k/\r=.int .u32 (i' n0 (l.take k):Nat)) (λ_ i=>κ l-(Aau i).toNat)
 case atStart=>exact⟨0,bT _,rfl,rfl⟩
 case round=>
  obtain⟨k,hk,rfl,rfl⟩:=hrel;have ab:i' n0 (l.take k)<4294967296:=Ka _ ah;by_cases hlt:k<κ l
  ·have al:=Hc k hlt;obtain⟨m,hm⟩:=bE (i' n0 (l.take k));have ag:i' n0 (l.take (k+1))=rk m l[k]:=by rw[R0 l k hlt,EE,hm]
   obtain⟨c,aP⟩:=bE (l[k]);rw[<-aP]at ag al;have ar:c.toNat<256:=c.toNat_lt;rw[<-hm]at ab ⊢;have hx:m^^^c.toNat<4294967296:=by have:m^^^c.toNat<2 ^ 32:=Fj ae ae;omega
   unfold rk at ag;obtain⟨x,aa⟩:=bE (m^^^c.toNat);have e1:bits .xor .u32 (m:Int) (c.toNat:Int)=(x:Int):=by rw[aa];exact u32_xor_nat _ _ ab ae
   rw[<-aa]at ag hx;have aN:=an ag;clear hm ag aP aa;go_wp2;clear e1 al;go_loop [0,20] (λr i=>∃j:Nat,j<=8/\i=i6 j/\r=.int .u32 (mX j x:Nat)) (λ_ i=>8-(Aau i).toNat)
   case atStart=>exact⟨0,ae,rfl,rfl⟩
   case round=>
    obtain⟨j,hj,rfl,rfl⟩:=hrel;by_cases ao:j<8
    ·have hb:mX j x<4294967296:=Ao j hx;have aJ:mX (j+1) x=p4 (mX j x):=rfl;obtain⟨y,hy⟩:=bE (mX j x);rw[<-hy]at hb aJ ⊢;have aM:=an aJ;clear aJ hy;have e1:bits .and .u32 (y:Int) 1=((y%2:Nat):Int):=by have:=u32_and_nat y 1 hb ae;rw[Xj]at this;exact this
     have e3:bits .xor .u32 ((y:Int)/2) 2197175160=(((y/2)^^^2197175160:Nat):Int):=by have:=u32_xor_nat (y/2) 2197175160 ae ae;rw[Int.natCast_ediv]at this;exact this
     by_cases hp:y%2=1
     ·have ht:((y:Int)%2==1)=true:=by simp;omega
      have hb2:p4 y=(y/2)^^^2197175160:=by unfold p4;rw[bI hp]
      have ak:=an hb2;clear hb2 hp;go_wp2;go_round
      case rel=>exact⟨j+1,ae,gO,by rw[aM.out,ak.out]⟩
      case measure=>simp[Aau];omega
     ·have ht:((y:Int)%2==1)=false:=by simp;omega
      have hb2:p4 y=y/2:=by unfold p4;rw[aY hp]
      have ak:=an hb2;clear hb2 hp;go_wp2;go_round
      case rel=>exact⟨j+1,ae,gO,by rw[aM.out,ak.out];rfl⟩
      case measure=>simp[Aau];omega
    ·obtain rfl:j=8:=by omega
     go_wp2;go_round
     case rel=>exact⟨k+1,ae,gO,by rw[aN.out]⟩
     case measure=>simp[Aau];omega
  ·obtain rfl:k=κ l:=by omega
   rw[fF]at *;have ai:gA s l=4294967295-i' n0 l:=by unfold gA;rw[au.out]
   obtain⟨m,hm⟩:=bE (i' n0 l);rw[<-hm]at ai ab ⊢;have aq:=an ai;clear ai hm;have e0:bits .xor .u32 IntKind.u32.max (m:Int)=((4294967295-m:Nat):Int):=by rw[He];exact zR m ab
   go_wp2;go_ret;exact⟨by rw[aq.out];rfl,rfl⟩
theorem VB(s:Nat)(hs:s<4294967296)(a:Option Adr)(cap:Nat)(w:af):Aae Aag 231 #[.int .u32 (s:Int),.slice a 0 cap] w λe w'=>e=.returned (.int .u32 (gA s []:Nat))/\w=w':=by
 obtain⟨n0,ay⟩:=bE (4294967295-s);have ah:n0<4294967296:=ae
 have ai:gA s []=s:=by unfold gA i';simp;omega
 have e0:bits .xor .u32 IntKind.u32.max (s:Int)=(n0:Int):=by rw[He,ay];exact zR s hs
 have e1:bits .xor .u32 IntKind.u32.max (n0:Int)=(s:Int):=by rw[He,zR n0 ah];omega
 rw[ai];clear ay ai;go_in;go_wp2;go_loop [0,12] (λr i=>i=i6 0/\r=.int .u32 (n0:Int)) (λ_ _=>0)
 case atStart=>simp
 case round=>obtain⟨rfl,rfl⟩:=hrel;exact e3
theorem VA(s:Nat)(hs:s<4294967296)(v:ah)(l:List aj)(w:af)(h:a8 w v l):Aae Aag 231 #[.int .u32 (s:Int),v] w λe w'=>e=.returned (.int .u32 (gA s l:Nat))/\w=w':=by
 have hl:=h.length_le;rcases h with⟨rfl,a,cap,rfl,_⟩|⟨b,off,cap,rfl,_,_,_,hc⟩
 ·grind [VB]
 ·exact QU s hs l b off cap w hl hc
theorem GI(v:ah)(l:List aj)(w:af)(h:a8 w v l):Aae Aag 167 #[v] w λe w'=>e=.returned (.int .u32 (gA 0 l:Nat))/\w=w':=by have H:=VA 0 ae v l w h;obtain⟨a,c,rfl⟩:=h.slice;go_in;go_wp2_with fail;refine H.mono ?_;rintro e w'⟨rfl,rfl⟩;exact e3

def mh:List aj:=[65,81,70,82]
def Ej(u:hT):List aj:=mh++(aW [8,8] [u.dz,u.ay]++(bR u.iV++aW [4,4] [u.len.toNat,u.sec.toNat]))
def q3(u:hT):List aj:=Ej u++Aad 80 0
def Cr(u:hT):Nat:=gA 0 (q3 u)
def eY(u:hT):List aj:=q3 u++aW [4] [Cr u]
theorem vG(a b:Nat):κ (aW [8,8] [a,b])=16:=aA
theorem GQ(a b:Nat):κ (aW [4,4] [a,b])=8:=aA
theorem jA(a:Nat):κ (aW [4] [a])=4:=aA
theorem fx(p:au):κ (bR p)=16:=aA
theorem Hh(u:hT):κ (Ej u)=44:=aA
theorem C0(u:hT):κ (q3 u)=124:=aA
theorem mL(u:hT):κ (eY u)=128:=aA
theorem WH(u:hT):Cr u<4294967296:=by grind [Cr,gA]
theorem aN(w:af)(o:Obj):(w.alloc o).heap.size=w.heap.size+1:=aq
def q6(u:hT):cS:=if eT u=true then⟨eY u,mL u⟩ else ey
def WG(u:hT):Int:=if eT u=true then 0 else 61
def e'(pre:List aj):List aj:=pre++Aad (128-κ pre) 0
theorem hz{pre:List aj}(h:κ pre<=128):κ (e' pre)=128:=by grind [e']
def Rc:e' []=aM:=rfl
theorem BO{pre ys:List aj}(h:κ pre+κ ys<=128):(Abx (aC (e' pre)).toList (κ pre) (ys.map aK)).toArray=aC (e' (pre++ys)):=by apply h3.1;unfold Abx;rw[r3,r3,Aac,<-wI,<-qy,<-Aar,<-Aar];congr 1;unfold e';simp;omega
theorem V5(u:hT):e' (q3 u)=e' (Ej u):=aA
theorem Rb(u:hT):e' (eY u)=eY u:=by simp[e',mL]
theorem iA{l:List aj}(h:aF w g t (aC l))(lo n cap:Nat)(hn:lo+n<=κ l)(h0:0<n)(hc:n<=cap)(hm:cap<=128):a8 w (.slice (some ⟨g,lo,none⟩) n cap) ((l.drop lo).take n):=by
 have hl:κ ((l.drop lo).take n)=n:=ab
 refine .inr ⟨g,lo,cap,ab,ae,ae,dK,λi hi=>?_⟩;grind [Je]
theorem pB(g lo:Nat)(h1:lo<128)(W:af):(Abo 60 (.pointer (some ⟨g,0,none⟩)) (some (.int .i64 (lo:Int))) none none).run Aag W=.ok (.slice (some ⟨g,lo,none⟩) (128-lo) (128-lo)) W:=by refine Gl ?_;intro aT hs;rw[run_sliceAt_array_l W 60 ⟨g,0,none⟩ aA .i64 (lo:Int) ae ae,hs,aT];simp only[Aax,slicedAt,Abp];grind [add_plain]
theorem LW(g hi:Nat)(h1:hi<=128)(W:af):(Abo 60 (.pointer (some ⟨g,0,none⟩)) none (some (.int .i64 (hi:Int))) none).run Aag W=.ok (.slice (some ⟨g,0,none⟩) hi 128) W:=by refine Gl ?_;intro aT hs;rw[run_sliceAt_array_h W 60 ⟨g,0,none⟩ aA .i64 (hi:Int) ae ae,hs,aT];rfl
theorem mE(g:Nat)(W:af):(Abo 60 (.pointer (some ⟨g,0,none⟩)) none none none).run Aag W=.ok (.slice (some ⟨g,0,none⟩) 128 128) W:=aA
section
variable {P:bp}
theorem hK{ops:Array Oper}{rest:List Oper}{op:Oper}{a:Act}{w:af}{Q:Exit->Act->af->Prop}(hgd:op.guard=none)(d s:bU)(dT sT:TypeId)(ho:op.op=.call {callee:=.builtin .copy,args:=#[d,s],argTypes:=#[dT,sT]})(elem:TypeId)(hu:P.underlying dT=some (.slice elem))(aN:(P.info? elem).map (·.size)=some 1)(g off n cap:Nat)(hd:a.eval d=.slice (some ⟨g,off,none⟩) n cap)(vs:ah)(ys:List aj)(hs:a.eval s=vs)(al:a8 w vs ys)(hn:κ ys<=n)(t:TypeId)(pre:List aj)(ab:off=κ pre)(hb:aF w g t (aC (e' pre)))(hfit:κ pre+κ ys<=128)(h:∀w',aF w' g t (aC (e' (pre++ys)))->Below g w w'->w.grownBy w' (some g)->wpList P ops Q rest (a.put op.dst (goInt (κ ys))) w'):wpList P ops Q (op::rest) a w:=hJ hgd d s dT sT ho elem hu aN aK cy g off n cap hd vs ys hs al hn t _ hb (by grind [bX,hz]) (λw' h1 h2 h3=>h w' (by grind [BO]) h2 h3)
theorem yC{ops:Array Oper}{rest:List Oper}{op:Oper}{a:Act}{w:af}{Q:Exit->Act->af->Prop}(hgd:op.guard=none)(d s:bU)(dT sT:TypeId)(ho:op.op=.call {callee:=.builtin .copy,args:=#[d,s],argTypes:=#[dT,sT]})(elem:TypeId)(hu:P.underlying dT=some (.slice elem))(aN:(P.info? elem).map (·.size)=some 1)(g off n cap:Nat)(hd:a.eval d=.slice (some ⟨g,off,none⟩) n cap)(b:ByteArray)(hs:a.eval s=.string b)(ys:List aj)(aG:b.data.toList=ys)(hn:κ ys<=n)(t:TypeId)(pre:List aj)(ab:off=κ pre)(hb:aF w g t (aC (e' pre)))(hfit:κ pre+κ ys<=128)(h:∀w',aF w' g t (aC (e' (pre++ys)))->Below g w w'->w.grownBy w' (some g)->wpList P ops Q rest (a.put op.dst (goInt (κ ys))) w'):wpList P ops Q (op::rest) a w:=by
 have aa:b.size=κ ys:=by rw[<-aG];exact Lib.size_eq b
 refine h' hgd λK hK=>?_;have hr:=Lib.run_copy_row_string (P:=P) w dT sT op.type elem g off n cap b _ t hu aN hb ae (by grind [bX,hz]);have aJ:((aC (e' pre)).toList.take off++Lib.byteCells b.data.toList++(aC (e' pre)).toList.drop (off+b.size)).toArray=aC (e' (pre++ys)):=by rw[<-BO hfit,ab,aG,aa];unfold Abx;rw[Aac,Aa9];rfl
 rw[aJ,aa]at hr;unfold Aca;simp[Abt,ho,resolve,invoke,builtin,hd,hs,hr,Aap];exact hK _ _ (h _ (hb.set _) (below_setRow (e6 _ _) (aE _) _) (cV w g _))
end
theorem VV{a b:Nat}(ha:a<18446744073709551616)(hb:b<18446744073709551616):nB [8,8] [a,b]:=vc
theorem VU{a b:Nat}(ha:a<4294967296)(hb:b<4294967296):nB [4,4] [a,b]:=vc
theorem GJ{a:Nat}(ha:a<4294967296):nB [4] [a]:=vc
theorem Ct(w:af)(u:hT)(aL:u.wf):Aae Aag 215 #[.agg (uC u)] w λe w'=>e=rt #[.agg (aC (q6 u).val),i6 (WG u)]/\Up w w':=by
 obtain⟨bD,a6,bu⟩:=cZ (ai w (.cells (uC u) 122)) (ai (w.alloc (.cells (uC u) 122)) (.cells (aC aM) 60)) (aN w (.cells (uC u) 122));have B1:=an ((aF.new w 122 (uC u)).up a6);have z1:=aF.new (w.alloc (.cells (uC u) 122)) 60 (aC aM);rw[bu]at z1;obtain⟨Z1,U1,RR,BS,be⟩:=eW z1 (bD.trans a6) (λW=>Me W u) ib dw;clear bu;cases hr:eT u
 ·obtain⟨HV,HE⟩:=aw (show q6 u=ey by unfold q6;rw[hr];rfl) (show WG u=61 by unfold WG;rw[hr];rfl);rw[hr]at RR;clear hr;go_in;go_wp2_with(refine arm ?_);generalize hw2:(w.alloc (.cells (uC u) 122)).alloc (.cells (aC aM) 60)=w2 at *;refine(RR _).mono ?_;rintro e w3⟨rfl,U3⟩;obtain⟨Z3,U4⟩:=az (Z1.up U3) (U1.trans U3);clear hw2;go_wp2_with(first|refine arm ?_|refine oJ ?_);intro w9 b9 g9;have U9:=U4.aG (fo g9 (oY Z3.lt) (λj hj=>Bm)) (hU _);go_wp2;exact bG (hi:=be) (.tuple #[.agg (aC aM),i6 61]) b9 ⟨by rw[HV.out,HE.out];rfl,U9⟩
 obtain⟨HV,HE,bh,aT,av,aO,bj,ax,bg,bb,HBL⟩:=WE (show(q6 u).val=eY u by unfold q6;rw[bI hr]) (show WG u=0 by unfold WG;rw[bI hr]) (show Ej u=mh++(aW [8,8] [u.dz,u.ay]++(bR u.iV++aW [4,4] [u.len.toNat,u.sec.toNat]))from rfl) (Hh u) (C0 u) (show Cr u=gA 0 (q3 u)from rfl) (WH u) (V5 u) (Rb u) (show eY u=q3 u++aW [4] [Cr u] from rfl) (mL u);obtain⟨⟨g1,g2⟩,⟨g3,g4⟩,⟨hg,_⟩,⟨g5,g6⟩,⟨g7,g8⟩⟩:=(kQ u).1 hr;obtain⟨PB,bn⟩:=aw (λW=>n5 W u.iV aL.2.2.1) (show cA u.iV≠false by rw[hg];simp);rw[hr]at RR;clear hr hg;generalize(q6 u).val=uv at *;generalize WG u=ue at *;generalize Ej u=pre at *;generalize q3 u=hdr at *;generalize Cr u=sm at *;generalize eY u=ak at *;obtain⟨dz,ay,iV,len,sec⟩:=u;dsimp only at *;obtain⟨nl,rfl⟩:∃n:Nat,len=n:=⟨len.toNat,ae⟩;obtain⟨ns,rfl⟩:∃n:Nat,sec=n:=⟨sec.toNat,ae⟩;simp only[Abp]at *;go_in;go_wp2_with(refine arm ?_);generalize hw2:(w.alloc (.cells (uC ⟨dz,ay,iV,(nl:Int),(ns:Int)⟩) 122)).alloc (.cells (aC aM) 60)=w2 at *;refine(RR _).mono ?_;rintro e w3⟨rfl,U3⟩;obtain⟨B3,Z3,U4⟩:=aV (B1.up U3) (Z1.up U3) (U1.trans U3);clear hw2 RR;obtain⟨c0,c1,c2,c5,c6,R2⟩:=yl B3;obtain⟨UA,sza⟩:=az (ai w3 (.cells #[i6 8,i6 8] 3)) (aN w3 (.cells #[i6 8,i6 8] 3));have aU:=an (show Aae Aag 240 #[cD w3.heap.size 2 2,cD (w3.heap.size+1) 2 2] ((w3.alloc (.cells #[i6 8,i6 8] 3)).alloc (.cells #[u6 (dz:Int),u6 (ay:Int)] 70)) (λe w'=>∃v,e=rt #[v,i6 0]/\Own aK 5 w' w3.heap.size v (aW [8,8] [dz,ay])/\Up w3 w')from by have UB:=ai (w3.alloc (.cells #[i6 8,i6 8] 3)) (.cells #[u6 (dz:Int),u6 (ay:Int)] 70);have i1:=(aD.ew (f:=bC) w3 w3.heap.size rfl #[i6 8,i6 8] 3 (0,0) [8,8] 2 rfl dK rfl).up UB;have i2:=aD.ew (f:=cr) (w3.alloc (.cells #[i6 8,i6 8] 3)) (w3.heap.size+1) vb #[u6 (dz:Int),u6 (ay:Int)] 70 (0,0) [dz,ay] 2 rfl dK rfl;refine(ps _ _ _ i1 aq _ _ i2 Bk (VV ae ae)).mono λe w' h=>?_;obtain⟨v,rfl,ho,hu⟩:=h;exact⟨v,rfl,ho.mono (UA.trans UB).size,(UA.trans UB).trans hu⟩)
 obtain⟨e0,e1⟩:=az (UA.cell c0) (UA.cell c1);clear sza;go_wp2_with fail;refine aU.mono ?_;rintro e w4⟨v5,rfl,O5,U5⟩;obtain⟨S5,B4,Z4,U6⟩:=bW O5.cu (B3.up U5) (Z3.up U5) (U4.trans U5);obtain⟨a5,k5,rfl⟩:=S5.slice;clear e0 e1;clear c0 c1 c2 c5 c6;obtain⟨c0,c1,c2,c5,c6,R2⟩:=yl B4;go_wp2_with(refine arm ?_);refine(PB w4).mono ?_;rintro e w5 aP;rcases aP with⟨_,v7,rfl,O7,U7⟩|⟨aB,_⟩
 rotate_left
 ·exact absurd aB bn
 obtain⟨S7,bo,B5,Z5,U8⟩:=eW O7.cu (S5.up U7) (B4.up U7) (Z4.up U7) (U6.trans U7);obtain⟨a7,k7,rfl⟩:=S7.slice;clear PB;clear c0 c1 c2 c5 c6;obtain⟨c0,c1,c2,c5,c6,R2⟩:=yl B5;have wn:=dT nl ae;obtain⟨bP,UA,sza⟩:=cZ (dT ns ae) (ai w5 (.cells #[i6 4,i6 4] 3)) (aN w5 (.cells #[i6 4,i6 4] 3));have aU:=an (show Aae Aag 240 #[cD w5.heap.size 2 2,cD (w5.heap.size+1) 2 2] ((w5.alloc (.cells #[i6 4,i6 4] 3)).alloc (.cells #[u6 (nl:Int),u6 (ns:Int)] 70)) (λe w'=>∃v,e=rt #[v,i6 0]/\Own aK 5 w' w5.heap.size v (aW [4,4] [nl,ns])/\Up w5 w')from by have UB:=ai (w5.alloc (.cells #[i6 4,i6 4] 3)) (.cells #[u6 (nl:Int),u6 (ns:Int)] 70);have i1:=(aD.ew (f:=bC) w5 w5.heap.size rfl #[i6 4,i6 4] 3 (0,0) [4,4] 2 rfl dK rfl).up UB;have i2:=aD.ew (f:=cr) (w5.alloc (.cells #[i6 4,i6 4] 3)) (w5.heap.size+1) vb #[u6 (nl:Int),u6 (ns:Int)] 70 (0,0) [nl,ns] 2 rfl dK rfl;refine(ps _ _ _ i1 aq _ _ i2 Bk (VU ae ae)).mono λe w' h=>?_;obtain⟨v,rfl,ho,hu⟩:=h;exact⟨v,rfl,ho.mono (UA.trans UB).size,(UA.trans UB).trans hu⟩)
 obtain⟨e5,e6⟩:=az (UA.cell c5) (UA.cell c6);clear sza;go_wp2_with fail;refine aU.mono ?_;rintro e w6⟨v9,rfl,O9,U9⟩;obtain⟨S9,br,bq,Z6,U10⟩:=eW O9.cu (S7.up U9) (bo.up U9) (Z5.up U9) (U8.trans U9);obtain⟨a9,k9,rfl⟩:=S9.slice;clear e5 e6 wn bP;clear c0 c1 c2 c5 c6;obtain⟨P0,V7⟩:=aw (show aF (w6.alloc (.cells (aC aM) 60)) w6.heap.size 60 (aC (e' []))by rw[Rc];exact aF.new w6 60 (aC aM)) (ai w6 (.cells (aC aM) 60));have SA:∀W,(Abo 60 (pz w6.heap.size) none none none).run Aag W=.ok (cD w6.heap.size 128 128) W:=mE w6.heap.size;have bQ:∀W,(Abo 60 (pz w6.heap.size) (some (i6 4)) none none).run Aag W=.ok (sq w6.heap.size 4 124 124) W:=pB w6.heap.size 4 ae;have bs:∀W,(Abo 60 (pz w6.heap.size) (some (i6 20)) none none).run Aag W=.ok (sq w6.heap.size 20 108 108) W:=pB w6.heap.size 20 ae;have bt:∀W,(Abo 60 (pz w6.heap.size) (some (i6 36)) none none).run Aag W=.ok (sq w6.heap.size 36 92 92) W:=pB w6.heap.size 36 ae;have aX:∀W,(Abo 60 (pz w6.heap.size) (some (i6 124)) none none).run Aag W=.ok (sq w6.heap.size 124 4 4) W:=pB w6.heap.size 124 ae;have a1:∀W,(Abo 60 (pz w6.heap.size) none (some (i6 124)) none).run Aag W=.ok (cD w6.heap.size 124 128) W:=LW w6.heap.size 124 ae;go_wp2_with(first
  | refine arm ?_
  | (refine yC rfl (.tmp 51) (.const (.string ⟨#[65,81,70,82]⟩)) 30 9 rfl 5 Aa0 al _ 0 128 128 rfl _ rfl mh rfl (by unfold mh;simp) _ _ rfl P0 (by unfold mh;simp) ?_))
 intro w8 P1 bJ _;obtain⟨P1,V8⟩:=aw (show aF w8 w6.heap.size 60 (aC (e' mh))from P1) (V7.aG bJ (aE _));obtain⟨T5,L5⟩:=aw (bq.up V8) (vG dz ay);go_wp2_with(first
  | (refine hK rfl (.tmp 53) (.tmp 54) 30 30 rfl 5 Aa0 al _ 4 124 124 rfl _ _ rfl T5 (by rw[L5.out];omega) _ _ rfl P1 (by rw[L5.out];unfold mh;simp) ?_))
 intro w9 P2 bK _;have P2:=an (show aF w9 w6.heap.size 60 (aC (e' (mh++aW [8,8] [dz,ay])))from P2);have Q2:(20:Nat)=κ (mh++aW [8,8] [dz,ay]):=by rw[Aaf,vG];rfl
 have V9:=an (V8.aG bK (aE _));obtain⟨T7,L7⟩:=aw (br.up V9) (fx iV);obtain⟨aj,aI⟩:=bE (mh++aW [8,8] [dz,ay]);rw[<-aI]at P2 Q2;replace Q2:=an Q2;have bx:=an aI;clear aI;have N7:κ (bR iV)<=108:=by rw[L7.out];omega
 have M7:κ aj+κ (bR iV)<=128:=by rw[L7.out,<-Q2.out];omega
 go_wp2_with(first
  | (refine hK rfl (.tmp 56) (.tmp 57) 30 30 rfl 5 Aa0 al _ 20 108 108 rfl _ _ rfl T7 N7 _ _ Q2 P2 M7 ?_))
 intro aQ P3 bL _;have Q3:(36:Nat)=κ (aj++bR iV):=by rw[Aaf,fx,<-Q2.out]
 have a8:=an (V9.aG bL (aE _));obtain⟨T9,L9⟩:=aw (S9.up a8) (GQ nl ns);obtain⟨ao,ab⟩:=bE (aj++bR iV);rw[<-ab]at P3 Q3;replace Q3:=an Q3;have bf:=an ab;clear ab Q2;have N9:κ (aW [4,4] [nl,ns])<=92:=by rw[L9.out];omega
 have M9:κ ao+κ (aW [4,4] [nl,ns])<=128:=by rw[L9.out,<-Q3.out];omega
 go_wp2_with(first
  | (refine hK rfl (.tmp 59) (.tmp 60) 30 30 rfl 5 Aa0 al _ 36 92 92 rfl _ _ rfl T9 N9 _ _ Q3 P3 M9 ?_))
 intro w11 P4 bM _;have ad:ao++aW [4,4] [nl,ns]=pre:=by rw[bf.out,bx.out,bh.out,Aa9,Aa9]
 rw[ad]at P4;have bF:=an (a8.aG bM (aE _));have au:=iA P4 0 124 128 (by rw[hz (by rw[aT.out];omega)];omega) ae ae ae;have aa:((e' pre).drop 0).take 124=hdr:=by rw[Aaw,<-ax.out];unfold e';rw[h5 av.out]
 rw[aa]at au;have SM:=an (GI _ hdr w11 au);rw[<-aO.out]at SM;rw[<-ax.out]at P4;have bz:=bj.out;have ws:=dT sm ae;clear ad Q3 aa;have UI:=an (ai w11 (.cells #[i6 4] 3));have bw:=an (show Aae Aag 167 #[cD w6.heap.size 124 128] (w11.alloc (.cells #[i6 4] 3)) (λe w'=>e=.returned (.int .u32 (sm:Int))/\(w11.alloc (.cells #[i6 4] 3))=w')from by
  have P5:=P4.up UI;have ar:=iA P5 0 124 128 (by rw[hz (by rw[av.out];omega)];omega) ae ae ae;have aJ:((e' hdr).drop 0).take 124=hdr:=by rw[Aaw];unfold e';rw[h5 av.out]
  rw[aJ]at ar;have:=GI _ _ _ ar;rw[<-aO.out]at this;exact this)
 obtain⟨UA,sza⟩:=az (ai w11 (.cells #[i6 4] 3)) (aN w11 (.cells #[i6 4] 3));have aU:=an (show Aae Aag 240 #[cD w11.heap.size 1 1,cD (w11.heap.size+1) 1 1] ((w11.alloc (.cells #[i6 4] 3)).alloc (.cells #[u6 (sm:Int)] 70)) (λe w'=>∃v,e=rt #[v,i6 0]/\Own aK 5 w' w11.heap.size v (aW [4] [sm])/\Up w11 w')from by have UB:=ai (w11.alloc (.cells #[i6 4] 3)) (.cells #[u6 (sm:Int)] 70);have i1:=(aD.ew (f:=bC) w11 w11.heap.size rfl #[i6 4] 3 (0,0) [4] 1 rfl dK rfl).up UB;have i2:=aD.ew (f:=cr) (w11.alloc (.cells #[i6 4] 3)) (w11.heap.size+1) vb #[u6 (sm:Int)] 70 (0,0) [sm] 1 rfl dK rfl;refine(ps _ _ _ i1 aq _ _ i2 Bk (GJ ae)).mono λe w' h=>?_;obtain⟨v,rfl,ho,hu⟩:=h;exact⟨v,rfl,ho.mono (UA.trans UB).size,(UA.trans UB).trans hu⟩)
 clear sza;go_wp2_with fail;refine bw.mono ?_;rintro e wx⟨rfl,rfl⟩;go_wp2_with fail;refine aU.mono ?_;rintro e bO⟨bU,rfl,bm,aH⟩;obtain⟨aS,aR⟩:=aw bm.cu (jA sm);obtain⟨bS,bT,rfl⟩:=aS.slice;obtain⟨P5,b6,QH⟩:=aV (P4.up aH) (bF.trans aH) (show(124:Nat)=κ hdr from av.symm);clear ws bz;have bl:κ (aW [4] [sm])<=4:=by rw[aR.out];omega
 have bk:κ hdr+κ (aW [4] [sm])<=128:=by rw[aR.out,<-QH.out];omega
 go_wp2_with(first
  | (refine hK rfl (.tmp 74) (.tmp 75) 30 30 rfl 5 Aa0 al _ 124 4 4 rfl _ _ rfl aS bl _ _ QH P5 bk ?_))
 intro bc P6 bN _;rw[<-bb.out,bg.out]at P6;have b0:=an (b6.aG bN (aE _));obtain⟨ba,bB,SB⟩:=aV (Z6.up b0) (U10.trans b0) (show(aC ak).size=128 by rw[bX];exact HBL);obtain⟨ag,bA⟩:=aw (show(prog.info? 60).map (·.size)=some (aC ak).size by rw[SB.out];exact dw) (show(aC aM).size=(aC ak).size by rw[SB.out];rfl);clear QH;go_wp2_with(first
  | refine arm ?_
  | refine db 60 2 77 (aC ak) ba (hi:=ag) (hold:=bA) ?_)
 intro bd bH g14;have aY:=bB.aG (fo g14 (oY ba.lt) (λj hj=>Bm)) (hU _);go_wp2;exact bG (hi:=ag) (.tuple #[.agg (aC ak),i6 0]) bH ⟨by rw[HV.out,HE.out],aY⟩
structure As where
 F:Nat->Prop
 P:af->Prop
 st:∀{w w':af}{H:Nat->Prop},P w->Touch H w w'->(∀n,F n->¬H n)->P w'
def bk(g:Nat)(t:Aab)(C:Array ah):As:=⟨(·=g),λw=>aF w g t C,λh T hf=>h.ax T (hf g rfl)⟩
structure Fr(F0:Nat->Prop)(x0:af)(L:List As)(w:af):Prop where
 t:Touch F0 x0 w
 p:∀A∈L,A.P w
 f:∀A∈L,∀n,A.F n->n<w.heap.size/\(F0 n\/x0.heap.size<=n)
 d:L.Pairwise (λA B=>∀n,A.F n->¬B.F n)
def Fsh(x0:af)(L:List As)(q:Nat):Prop:=x0.heap.size<=q/\∀A∈L,¬A.F q
inductive mW:List As->As->As->List As->Prop
 | head {L:List As} {A B:As}:mW (A::L) A B (B::L)
 | tail {L L':List As} {A B D:As}:mW L A B L'->mW (D::L) A B (D::L')
structure Rz(w w':af)(N:List As):Prop where
 u:Up w w'
 p:∀A∈N,A.P w'
 f:∀A∈N,∀n,A.F n->w.heap.size<=n/\n<w'.heap.size
 d:N.Pairwise (λA B=>∀n,A.F n->¬B.F n)
section
variable {F0:Nat->Prop} {x0:af} {L L' N:List As} {w w':af} {A B:As} {g:Nat} {t:Aab} {C C':Array ah}
theorem mW.mem(h:mW L A B L'):A∈L:=by exact NS
theorem mW.sub(h:mW L A B L'):∀D∈L',D=B\/D∈L:=by
 induction h with
 | head=>grind
 | tail _ ih=>grind
theorem mW.pair(h:mW L A B L'){R:As->As->Prop}(hs:∀{A B},R A B->R B A)(d:L.Pairwise R)(k:∀D∈L,R A D->R B D):L'.Pairwise R/\∀D∈L',D=B\/R A D:=by
 induction h with
 | head=>obtain⟨d1,d2⟩:=gl.1 d;exact⟨gl.2 ⟨λD hD=>k D (bt _ hD) (d1 D hD),d2⟩,λD hD=>(Aam.1 hD).imp id (d1 D)⟩
 | tail hU ih=>
  obtain⟨d1,d2⟩:=gl.1 d;obtain⟨i1,i2⟩:=ih d2 (λD hD=>k D (bt _ hD));refine⟨gl.2 ⟨λD hD=>?_,i1⟩,λD hD=>?_⟩
  ·rcases hU.sub D hD with rfl|h
   ·exact hs (k _ df (hs (d1 _ hU.mem)))
   ·exact d1 D h
  ·rcases Aam.1 hD with rfl|h
   ·exact .inr (hs (d1 _ hU.mem))
   ·exact i2 D h
def Fr.fg(s:Fr F0 x0 L w)(h:bk g t C∈L):aF w g t C:=s.p _ h
theorem Fr.Aj(s:Fr F0 x0 L w)(hU:mW L A B L')(T:Touch A.F w w')(hB:B.P w')(hF:∀n,B.F n->n<w'.heap.size/\(A.F n\/w.heap.size<=n)):Fr F0 x0 L' w':=by
 have fA:=s.f _ hU.mem;obtain⟨d1,d2⟩:=hU.pair (R:=λA B=>∀n,A.F n->¬B.F n) (λh n a b=>h n b a) s.d (λD hD h n hn hd=>by
  rcases(hF n hn).2 with h1|h1
  ·exact h n h1 hd
  ·have:=(s.f D hD n hd).1;omega)
 refine⟨s.t.trans T (λn h hl=>(fA n h).2.resolve_right ae),λD hD=>?_,λD hD n hn=>?_,d1⟩
 ·rcases d2 D hD with rfl|h
  ·exact hB
  ·rcases hU.sub D hD with rfl|hL
   ·exact hB
   ·exact D.st (s.p D hL) T (λn a b=>h n b a)
 ·rcases hU.sub D hD with rfl|hL
  ·refine⟨(hF n hn).1,?_⟩;rcases(hF n hn).2 with h1|h1
   ·exact(fA n h1).2
   ·exact .inr (bK s.t.size h1)
  ·exact⟨ej (s.f D hL n hn).1 T.size,(s.f D hL n hn).2⟩
theorem Fr.res(s:Fr F0 x0 L w)(r:Rz w w' N):Fr F0 x0 (N++L) w':=by
 have T:Touch (λ_=>False) w w':=Touch.bP r.u;refine⟨s.t.trans T (λ_ h=>h.elim),λD hD=>?_,λD hD n hn=>?_,Bj.2 ⟨r.d,s.d,λD hD E hE n hn he=>?_⟩⟩
 ·rcases Aa8.1 hD with h|h
  ·exact r.p D h
  ·exact D.st (s.p D h) T (λ_ _ h=>h)
 ·rcases Aa8.1 hD with h|h
  ·exact⟨(r.f D h n hn).2,.inr (bK s.t.size (r.f D h n hn).1)⟩
  ·exact⟨ej (s.f D h n hn).1 T.size,(s.f D h n hn).2⟩
 ·have:=(r.f D hD n hn).1;have:=(s.f E hE n he).1;omega
theorem Rz.z(u:Up w w'):Rz w w' []:=⟨u,λ_ h=>hE,λ_ h=>hE,.nil⟩
theorem Rz.one(u:Up w w')(hA:A.P w')(hF:∀n,A.F n->w.heap.size<=n/\n<w'.heap.size):Rz w w' [A]:=⟨u,λD h=>by rw[kG.1 h];exact hA,λD h=>by rw[kG.1 h];exact hF,yQ ..⟩
def Fr.up(s:Fr F0 x0 L w)(u:Up w w'):Fr F0 x0 L w':=s.res (.z u)
theorem Fr.new(s:Fr F0 x0 L w)(r:Rz w w' [A]):Fr F0 x0 (A::L) w':=s.res r
theorem Fr.alloc(s:Fr F0 x0 L w)(t:Aab)(C:Array ah):Fr F0 x0 (bk w.heap.size t C::L) (w.alloc (.cells C t)):=s.res (.one (ai _ _) (aF.new ..) (λn h=>by have h:n=w.heap.size:=h;have:=(aF.new w t C).lt;omega))
theorem Fr.set(s:Fr F0 x0 L w)(hU:mW L (bk g t C) (bk g t C') L')(hb:aF w' g t C')(hg:w.grownBy w' (some g)):Fr F0 x0 L' w':=s.Aj hU (Touch.bg hg (λk e=>by cases e;rfl)) hb (λn h=>⟨by rw[show n=g from h];exact hb.lt,.inl h⟩)
theorem Fr.fsh(s:Fr F0 x0 L w){q:Nat}(h:w.heap.size<=q):Fsh x0 L q:=⟨bK s.t.size h,λA hA hf=>by have:=(s.f A hA q hf).1;omega⟩
theorem Fr.add(s:Fr F0 x0 L w)(f:Fsh x0 L g)(h:aF w g t C):Fr F0 x0 (bk g t C::L) w:=by
 refine⟨s.t,λD hD=>?_,λD hD n hn=>?_,gl.2 ⟨λD hD n hn hd=>f.2 D hD (by rw[<-show n=g from hn];exact hd),s.d⟩⟩
 ·rcases Aam.1 hD with rfl|hD
  ·exact h
  ·exact s.p D hD
 ·rcases Aam.1 hD with rfl|hD
  ·exact⟨by rw[show n=g from hn];exact h.lt,.inr (by rw[show n=g from hn];exact f.1)⟩
  ·exact s.f D hD n hn
end
def jn(A B:As):As:=⟨λn=>A.F n\/B.F n,λw=>A.P w/\B.P w,λh T hf=>⟨A.st h.1 T λn hn=>hf n (.inl hn),B.st h.2 T λn hn=>hf n (.inr hn)⟩⟩
inductive yq:List As->As->List As->Prop
 | head {A:As} {L:List As}:yq (A::L) A L
 | tail {A B:As} {L L':List As}:yq L A L'->yq (B::L) A (B::L')
theorem yq.sub{D:As}{L L':List As}(h:yq L D L'):∀A∈L',A∈L:=by
 induction h with
 | head=>exact λA h=>bt _ h
 | tail _ ih=>
  intro A h;rcases Aam.1 h with rfl|h
  ·exact df
  ·exact bt _ (ih A h)
theorem yq.mem{D:As}{L L':List As}(h:yq L D L'):D∈L:=by exact NS
theorem yq.pair{D:As}{L L':List As}{R:As->As->Prop}(h:yq L D L')(hs:∀{A B},R A B->R B A)(d:L.Pairwise R):L'.Pairwise R/\∀A∈L',R D A:=by
 induction h with
 | head=>exact⟨(gl.1 d).2,(gl.1 d).1⟩
 | tail h ih=>
  obtain⟨d1,d2⟩:=gl.1 d;obtain⟨i1,i2⟩:=ih d2;refine⟨gl.2 ⟨λA hA=>d1 A (h.sub A hA),i1⟩,λA hA=>?_⟩;rcases Aam.1 hA with rfl|hA
  ·exact hs (d1 _ h.mem)
  ·exact i2 A hA
def Fr.rem{F0:Nat->Prop}{x0 w:af}{L L':List As}{D:As}(s:Fr F0 x0 L w)(h:yq L D L'):Fr F0 x0 L' w:=⟨s.t,λA hA=>s.p A (h.sub A hA),λA hA=>s.f A (h.sub A hA),(h.pair (R:=λA B=>∀n,A.F n->¬B.F n) (λh n a b=>h n b a) s.d).1⟩
theorem Fr.join{F0:Nat->Prop}{x0 w:af}{L L1 L':List As}{A B:As}(s:Fr F0 x0 L w)(h:yq L B L1)(hU:mW L1 A (jn A B) L'):Fr F0 x0 L' w:=by
 obtain⟨p1,p2⟩:=h.pair (R:=λA B=>∀n,A.F n->¬B.F n) (λh n a b=>h n b a) s.d;obtain⟨d1,d2⟩:=hU.pair (R:=λA B=>∀n,A.F n->¬B.F n) (λh n a b=>h n b a) p1 (λD hD k n hn hd=>by
  rcases hn with hn|hn
  ·exact k n hn hd
  ·exact p2 D hD n hn hd)
 have hA:=h.sub _ hU.mem;refine⟨s.t,λD hD=>?_,λD hD n hn=>?_,d1⟩
 ·rcases hU.sub D hD with rfl|hD
  ·exact⟨s.p _ hA,s.p _ h.mem⟩
  ·exact s.p D (h.sub D hD)
 ·rcases hU.sub D hD with rfl|hD
  ·exact hn.elim (s.f _ hA n) (s.f _ h.mem n)
  ·exact s.f D (h.sub D hD) n hn
def no:Nat->Prop:=λ_=>False
theorem Fr.start(x:af):Fr no x [] x:=⟨Touch.refl _ _,λ_ h=>hE,λ_ h=>hE,.nil⟩
def Fr.pure{x w:af}{L:List As}(s:Fr no x L w):Up x w:=s.t.up (Up.refl x) (λ_ h=>h.elim)
theorem Fr.from{x:af}{A:As}(h:A.P x)(hl:∀n,A.F n->n<x.heap.size):Fr A.F x [A] x:=⟨Touch.refl _ _,λD h'=>by rw[kG.1 h'];exact h,λD h' n hn=>by rw[kG.1 h']at hn;exact⟨hl n hn,.inl hn⟩,yQ ..⟩
def zc(P:bp)(t:Aab):Array ah:=match P.info? t with
 | some i=>match i.zero with
  | some v=>v.cells
  | none=>#[]
 | none=>#[]
def zk(P:bp)(t:Aab):Bool:=(P.info? t).any (·.zero.isSome)
theorem aaU(h:zk P t=true):∃v,(∀W,(Acj t).run P W=.ok v W)/\v.cells=zc P t:=by
 unfold zk at h;cases hi:P.info? t with
 | none=>simp[hi]at h
 | some i=>
  cases hz:i.zero with
  | none=>simp[hi,hz]at h
  | some v=>exact⟨v,λW=>by simp[Acj,typeInfo,hi,hz],by simp[zc,hi,hz]⟩
section
variable {P:bp} {ops:Array Abn} {Q:Exit->Act->af->Prop} {K:Act->af->Prop} {o:Abn} {a:Act} {w:af}
theorem W1{v:ah}{w':af}(hv:(Abt a.eval o).run P w=.ok (.value v) w')(h:K (a.put o.dst v) w'):o.wp P a w K Q:=by unfold Aca;rw[hv];exact h
theorem tS{t:Aab}(ho:o.op=.alloc t)(hz:zk P t=true)(h:K (a.put o.dst (pz w.heap.size)) (w.alloc (.cells (zc P t) t))):o.wp P a w K Q:=by obtain⟨v,h1,h2⟩:=aaU hz;unfold Aca Abt;simp[ho,Instr.alloc,Aay,h1,newVar,newRow,h2,Aap];exact h
theorem JD{t:Aab}{x:bU}{C:Array ah}(ho:o.op=.box t x)(hx:(a.eval x).cells=C)(h:K (a.put o.dst (pz w.heap.size)) (w.alloc (.cells C t))):o.wp P a w K Q:=by unfold Aca Abt;simp[ho,Instr.box,hx,Aay,newVar,newRow,Aap];exact h
theorem mP{ty t:Aab}{x y:bU}{g off:Nat}{V C:Array ah}(ho:o.op=.store ty x y)(hx:a.eval x=.pointer (some ⟨g,off,none⟩))(hy:(a.eval y).cells=V)(hb:aF w g t C)(hi:(P.info? ty).map (·.size)=some V.size)(hfit:off+V.size<=C.size)(h1:V.all (·.oneCell')=true)(h:∀w',aF w' g t (Abx C.toList off V.toList).toArray->w.grownBy w' (some g)->K (a.put o.dst Aas) w'):o.wp P a w K Q:=by
 have aG:=wD (P:=P) g off t V.toList 0 C w hb ab (λv hv=>(wE.1 h1) v aa);have a6:(storeVar ty ⟨g,off,none⟩ (a.eval y)).run P w=.ok () (w.setRow g (Abx C.toList off V.toList).toArray):=by
  cases hq:P.info? ty with
  | none=>simp[hq]at hi
  | some i=>
   have hs:V.size=i.size:=by simp[hq]at hi;omega
   simp only[Nat.add_zero,Aa9]at aG;simp[storeVar,sizeOf,typeInfo,hq,hy,hs,Abx];simpa[hs]using aG
 unfold Aca Abt;simp[ho,hx,Instr.storeAt,Adg,Aay,a6,Aap];exact h _ (hb.set _) (cV w g _)
theorem Cg{C V:Array ah}(h:C.size=V.size):(Abx C.toList 0 V.toList).toArray=V:=MY
end
theorem Sx(h:(P.info? ty).map (·.size)=some C.size:=by first|with_reducible assumption|with_reducible exact RowKit.Hid.out cj|with_reducible exact hI _ cj|exact lO):(P.info? ty).map (·.size)=some C.size:=h
theorem acn{v:ah}(h:v.oneCell'=true):(#[v]).all (·.oneCell')=true:=by simp[h]
theorem zoa(h:C.all (·.oneCell')=true:=by first|with_reducible assumption|with_reducible exact RowKit.Hid.out cj|exact acn aA|with_reducible exact jU _|with_reducible exact gU|exact vz):C.all (·.oneCell')=true:=h
theorem zhs{C C':Array ah}(h:C.size=C'.size:=by first|with_reducible assumption|with_reducible exact RowKit.Hid.out cj|rfl|exact Le cj aA):C.size=C'.size:=h
theorem gG{b:As}{L:List As}(h:b∈L:=by first|with_reducible exact df|with_reducible exact bt _ df|with_reducible exact bt _ (bt _ df)|with_reducible exact bt _ (bt _ (bt _ df))|with_reducible exact bt _ (bt _ (bt _ (bt _ df)))|with_reducible exact bt _ (bt _ (bt _ (bt _ (bt _ df))))|with_reducible exact bt _ (bt _ (bt _ (bt _ (bt _ (bt _ df)))))|with_reducible exact bt _ (bt _ (bt _ (bt _ (bt _ (bt _ (bt _ df))))))|with_reducible exact bt _ (bt _ (bt _ (bt _ (bt _ (bt _ (bt _ (bt _ df)))))))|with_reducible exact bt _ (bt _ (bt _ (bt _ (bt _ (bt _ (bt _ (bt _ (bt _ df))))))))|with_reducible exact bt _ (bt _ (bt _ (bt _ (bt _ (bt _ (bt _ (bt _ (bt _ (bt _ df)))))))))|with_reducible exact bt _ (bt _ (bt _ (bt _ (bt _ (bt _ (bt _ (bt _ (bt _ (bt _ (bt _ df))))))))))|with_reducible exact bt _ (bt _ (bt _ (bt _ (bt _ (bt _ (bt _ (bt _ (bt _ (bt _ (bt _ (bt _ df)))))))))))):b∈L:=h
theorem zzf(h:zc P t=C:=by first|with_reducible exact acx|with_reducible exact acy|with_reducible exact acw|with_reducible exact acs|with_reducible exact abZ|with_reducible exact ab0|with_reducible exact abX|with_reducible exact acr|with_reducible exact zc3|with_reducible exact acv|with_reducible exact acu|with_reducible exact abY):zc P t=C:=h
theorem zvv{x v:ah}(h:x=v:=by first|exact(rfl:_=Value.int _ _)|exact(rfl:_=Value.slice _ _ _)|exact(rfl:_=Value.pointer _)|exact(rfl:_=Value.bool _)|exact(rfl:_=Value.string _)|exact(rfl:_=Value.agg _)|rfl):x=v:=h
theorem zvo{x:Option ah}{v:ah}(h:x=some v:=by first|exact(rfl:_=some (Value.int _ _))|exact(rfl:_=some (Value.slice _ _ _))|exact(rfl:_=some (Value.pointer _))|exact(rfl:_=some (Value.bool _))|exact(rfl:_=some (Value.string _))|rfl):x=some v:=h
theorem cva(h:x=.agg C):x.cells=C:=nS
theorem cvs{a:Option Adr}{n c:Nat}(h:x=.slice a n c):x.cells=#[.slice a n c]:=nS
theorem cvi{k:IntKind}{n:Int}(h:x=.int k n):x.cells=#[.int k n]:=nS
theorem cvt{b:ByteArray}(h:x=.string b):x.cells=#[.string b]:=nS
theorem cvb{b:Bool}(h:x=.bool b):x.cells=#[.bool b]:=nS
theorem cvp{b:Option Adr}(h:x=.pointer b):x.cells=#[.pointer b]:=nS
theorem zcv(h:x.cells=C:=by first|exact cva aA|exact cvs aA|exact cvi aA|exact cvt aA|exact cvb aA|exact cvp aA):x.cells=C:=h
theorem wc{L L':List As}{A B:As}(h:mW L A B L':=by first|with_reducible exact .head|with_reducible exact .tail .head|with_reducible exact .tail (.tail .head)|with_reducible exact .tail (.tail (.tail .head))|with_reducible exact .tail (.tail (.tail (.tail .head)))|with_reducible exact .tail (.tail (.tail (.tail (.tail .head))))|with_reducible exact .tail (.tail (.tail (.tail (.tail (.tail .head)))))|with_reducible exact .tail (.tail (.tail (.tail (.tail (.tail (.tail .head))))))|with_reducible exact .tail (.tail (.tail (.tail (.tail (.tail (.tail (.tail .head)))))))|with_reducible exact .tail (.tail (.tail (.tail (.tail (.tail (.tail (.tail (.tail .head))))))))|with_reducible exact .tail (.tail (.tail (.tail (.tail (.tail (.tail (.tail (.tail (.tail .head)))))))))|with_reducible exact .tail (.tail (.tail (.tail (.tail (.tail (.tail (.tail (.tail (.tail (.tail .head))))))))))|with_reducible exact .tail (.tail (.tail (.tail (.tail (.tail (.tail (.tail (.tail (.tail (.tail (.tail .head)))))))))))):mW L A B L':=h
def Sv(F0:Nat->Prop)(x0:af)(L:List As)(w:af):Prop:=Touch F0 x0 w/\∀A∈L,A.P w
section
variable {P:bp} {ops:Array Abn} {Q:Exit->Act->af->Prop} {K:Act->af->Prop} {rest:List Abn} {o:Abn} {a:Act} {w:af} {L L':List As} {F0:Nat->Prop} {x0:af} {v:ah} {g off n m:Nat} {t ty:Aab} {C C':Array ah}
def Fr.sv(s:Fr F0 x0 L' w)(hL:∀A∈L,A∈L'):Sv F0 x0 L w:=⟨s.t,λA h=>s.p A (hL A h)⟩
def W5(ho:o.op=.load ty (.tmp n))(hx:a.eval (.tmp n)=.pointer (some ⟨g,off,none⟩))(hm:bk g t C∈L)(hv:C[off]?=some v)(hagg:∀w:af,(isAgg ty).run P w=.ok false w)(hw:Aaa o (Aa1 ops a.tmps)=true):Acb P ops (Sv F0 x0 L) o v a:=zV hw ty (.tmp n) ho ⟨g,off,none⟩ hx (λw h=>((show aF w g _ C from h.2 _ hm).cell off).trans hv) hagg
def ZH{d:eQ}(ho:o.op=.load ty (.tmp n))(hx:a.eval (.tmp n)=.pointer (some ⟨g,0,none⟩))(hu:P.underlying ty=some d)(hd:d.isRow=true)(hm:bk g ty C∈L)(hi:(P.info? ty).map (·.size)=some C.size)(hw:Aaa o (Aa1 ops a.tmps)=true):Acb P ops (Sv F0 x0 L) o (.agg C) a:=wb hw ty (.tmp n) ho g 0 hx C (λw h=>(show aF w g _ C from h.2 _ hm).range) d hu hd hi
def ZJ{d:eQ}(ho:o.op=.load ty (.tmp n))(hx:a.eval (.tmp n)=.pointer (some ⟨g,off,none⟩))(hu:P.underlying ty=some d)(hd:d.isRow=true)(hm:bk g t C∈L)(hC:∀W,aF W g t C->W.rangeAt g off C'.toList)(hi:(P.info? ty).map (·.size)=some C'.size)(hw:Aaa o (Aa1 ops a.tmps)=true):Acb P ops (Sv F0 x0 L) o (.agg C') a:=wb hw ty (.tmp n) ho g off hx C' (λw h=>hC w (show aF w g _ C from h.2 _ hm)) d hu hd hi
def ZI{ad:Adr}(ho:o.op=.load ty (.tmp n))(hx:a.eval (.tmp n)=.pointer (some ad))(hc:x0.cell? ad=some v)(hF:¬F0 ad.block)(hagg:∀w:af,(isAgg ty).run P w=.ok false w)(hw:Aaa o (Aa1 ops a.tmps)=true):Acb P ops (Sv F0 x0 L) o v a:=zV hw ty (.tmp n) ho ad hx (λw h=>(nN (h.1.block _ (ie _ _ hc) hF)).trans hc) hagg
def W6{d:eQ}(ho:o.op=.load ty (.tmp n))(hx:a.eval (.tmp n)=.pointer (some ⟨g,off,none⟩))(hu:P.underlying ty=some d)(hd:d.isRow=true)(hc:x0.rangeAt g off C.toList)(hF:¬F0 g)(hi:(P.info? ty).map (·.size)=some C.size)(hw:Aaa o (Aa1 ops a.tmps)=true):Acb P ops (Sv F0 x0 L) o (.agg C) a:=wb hw ty (.tmp n) ho g off hx C (λw h j v hj=>(nN (h.1.block _ (ie _ _ (hc j v hj)) hF)).trans (hc j v hj)) d hu hd hi
end
theorem W4{S:af->Prop}(ho:o.op=.build ty #[])(hb:P.built ty []=some C)(hw:Aaa o (Aa1 ops a.tmps)=true):Acb P ops S o (.agg C) a:=.inl ⟨hw,λw _=>by
  have:=run_build (P:=P) w ty #[] C hb;unfold Abt;simp only[ho,List.map_toArray,List.map_nil,Aay,this,Aax,Ac7]⟩
inductive Bs (a:Act):List (Nat × bU)->List (Nat × ah)->Prop
 | nil:Bs a [] []
 | cons {k:Nat} {x:bU} {v:ah} {ps:List (Nat × bU)} {vs:List (Nat × ah)} (r:Bs a ps vs) (h:a.eval x=v:=by exact zvv):Bs a ((k,x)::ps) ((k,v)::vs)
theorem Bs.eq{ps:List (Nat × bU)}{l:List (Nat × ah)}(h:Bs a ps l):ps.map (λp=>(p.1,a.eval p.2))=l:=by
 induction h with
 | nil=>rfl
 | cons r h ih=>rw[Acd,ih,h]
theorem Pr{S:af->Prop}{ps:List (Nat × bU)}{l:List (Nat × ah)}(ho:o.op=.build ty ⟨ps⟩)(hl:Bs a ps l)(hb:P.built ty l=some C)(hw:Aaa o (Aa1 ops a.tmps)=true):Acb P ops S o (.agg C) a:=.inl ⟨hw,λw _=>by
  have:=hl.eq;subst this;have:=run_build (P:=P) w ty (ps.toArray.map λp=>(p.1,a.eval p.2)) C (by simpa using hb);unfold Abt;simp only[ho,Aay,this,Aax,Ac7]⟩
theorem zbs{ps:List (Nat × bU)}{l:List (Nat × ah)}(h:Bs a ps l:=by first|exact .cons .nil|exact .cons (.cons .nil)|exact .cons (.cons (.cons .nil))|exact .cons (.cons (.cons (.cons .nil)))|exact .cons (.cons (.cons (.cons (.cons .nil))))|exact .cons (.cons (.cons (.cons (.cons (.cons .nil)))))|exact .cons (.cons (.cons (.cons (.cons (.cons (.cons .nil))))))|exact .cons (.cons (.cons (.cons (.cons (.cons (.cons (.cons .nil)))))))|exact .cons (.cons (.cons (.cons (.cons (.cons (.cons (.cons (.cons .nil))))))))|exact .cons (.cons (.cons (.cons (.cons (.cons (.cons (.cons (.cons (.cons .nil)))))))))):Bs a ps l:=h
theorem zas{p:Prop}(h:p:=by first|with_reducible assumption|assumption):p:=h
theorem zno{F:Nat->Prop}(h:¬F n:=by first|exact λh=>h|assumption):¬F n:=h
theorem zyf{F0:Nat->Prop}{x0:af}{L:List As}{v:ah}(h:YieldsIf P ops (Sv F0 x0 L) o v a:=by first
 | exact ZH aA aA hM aA gG Sx aA
 | exact ZJ aA aA hM aA gG (by intro _ h;first|with_reducible exact mM h cj cj|with_reducible exact Cy h cj cj|with_reducible exact Cz h cj cj|with_reducible exact Ca h|with_reducible exact Cs h) Sx aA
 | exact W5 aA aA gG zvo F1 aA
 | exact W6 aA aA hM aA zas zno Sx aA
 | exact ZI aA aA zas zno F1 aA
 | exact Pr aA zbs zas aA
 | exact ym):YieldsIf P ops (Sv F0 x0 L) o v a:=h
def nZ(l:Array Bool):List Nat->Array Bool
 | []=>l
 | e::E=>(nZ l E).setIfInBounds e true
def HT(ops:Array Abn)(j:Nat):Option Tmp:=(ops[j]?).bind (·.dst)
def put(ops:Array Abn)(a:Act):List (Nat × Nat)->Act
 | []=>a
 | e::E=>(put ops a E).put (HT ops e.1) (pz e.2)
def mR(l:Array Bool):Nat:=l.toList.countP (λb=>!b)
def Ig(P:bp)(ops:Array Abn)(j:Nat):Bool:=match ops[j]? with
 | some o=>match o.op with
  | .alloc t=>o.guard.isNone && zk P t
  | _=>false
 | none=>false
def CH(ops:Array Abn)(l:Array Bool):List Nat:=Abi .any ops l
def SA(P:bp)(ops:Array Abn)(l:Array Bool):List Nat:=(CH ops l).filter (Ig P ops)
def MC(P:bp)(ops:Array Abn)(l:Array Bool)(c:Nat):Bool:=(CH ops l).contains c && !Ig P ops c && (CH ops (nZ l (SA P ops l))).all (·==c) && (SA P ops l).all (λj=>match ops[j]?,ops[c]? with
  | some x,some y=>x.apart ops y
  | _,_=>false)
def chN(P:bp)(ops:Array Abn)(l:Array Bool)(j:Nat):Bool:=(SA P ops l).contains j && (CH ops (nZ l ((SA P ops l).filter (· != j)))).all (·==j) && (SA P ops l).all (λi=>i==j || match ops[i]?,ops[j]? with
  | some x,some y=>x.apart ops y
  | _,_=>false)
theorem uc{l:Array Bool}(h:l.getD i true=false):mR (l.setIfInBounds i true)+1=mR l:=by
 have hi:i<l.size:=by
  rcases jO i l.size with h'|h'
  ·exact h'
  ·simp[Array.getD,Nat.not_lt.2 h']at h
 have hv:l[i]=false:=by simpa[Array.getD,hi]using h
 unfold mR;have e:=List.countP_set (p:=λb=>!b) (l:=l.toList) (a:=true) (i:=i) Bo;have:0<l.toList.countP (λb=>!b):=List.countP_pos_iff.2 ⟨false,by rw[<-hv];simp,rfl⟩;rw[Abl,e,Array.getElem_toList,hv];simp only[Bool.not_true,Bool.not_false,if_true,Ab3,if_false];omega
theorem k7(l:Array Bool)(E:List Nat)(k:Nat)(d:Bool):(nZ l E).getD k d=if k∈E/\k<l.size then true else l.getD k d:=by
 induction E with
 | nil=>simp[nZ]
 | cons e E ih=>
  have hs:∀E,(nZ l E).size=l.size:=λE=>by induction E with
   | nil=>rfl
   | cons _ _ ih=>simp[nZ,ih]
  show((nZ l E).setIfInBounds e true).getD k d=_;rw[MU,Array.getElem?_setIfInBounds,hs,<-oW];by_cases hk:e=k
  ·subst hk;by_cases hl:e<l.size
   ·simp[hl]
   ·simp[hl,Array.getElem?_eq_none (Nat.not_lt.1 hl)]
  ·rw[aY hk,oW,<-MU,ih];have:k≠e:=λh=>hk h.symm;simp[this]
def vI{l:Array Bool}:j∈CH ops l↔l.getD j true=false/\∃o,ops[j]?=some o/\∀e∈o.after,Region.binds .any e=true->l.getD e.on false=true:=mem_ready
theorem vJ{l:Array Bool}{E:List Nat}(h:j∈CH ops l)(hj:j ∉ E):j∈CH ops (nZ l E):=by
 rw[vI]at h ⊢;obtain⟨h1,o,h2,h3⟩:=h;refine⟨by rw[k7];simp[hj,h1],o,h2,λe he hb=>?_⟩;rw[k7];split
 ·rfl
 ·exact h3 e he hb
theorem Pb{l:Array Bool}{E J:List Nat}(h:j∈CH ops (nZ l E))(hE:∀e∈E,e∈J)(hj:j ∉ J):j∈CH ops (nZ l J):=by
 rw[vI]at h ⊢;obtain⟨h1,o,h2,h3⟩:=h;rw[k7]at h1;refine⟨?_,o,h2,λe he hb=>?_⟩
 ·rw[k7];split at h1
  ·cases h1
  ·simp[hj,h1]
 ·have:=h3 e he hb;rw[k7]at this ⊢;by_cases hm:e.on∈J/\e.on<l.size
  ·simp[hm]
  ·rw[aY hm];rw[aY (λh=>hm ⟨hE _ h.1,h.2⟩)]at this;exact this
theorem vo{l:Array Bool}{E:List Nat}(h:i ∉ E):nZ (l.setIfInBounds i true) E=(nZ l E).setIfInBounds i true:=by
 induction E with
 | nil=>rfl
 | cons e E ih=>show(nZ (l.setIfInBounds i true) E).setIfInBounds e true=_;rw[ih aQ,Array.setIfInBounds_comm _ _ aQ];rfl
theorem MJ(h:Ig P ops j=true):∃o t,ops[j]?=some o/\o.op=.alloc t/\o.guard=none/\zk P t=true:=by
 unfold Ig at h;split at h
 ·split at h
  ·rename_i o ho _ t ht;simp at h;exact⟨o,t,ho,ht,h.1,h.2⟩
  ·cases h
 ·cases h
theorem GR{v:ah}(h:∀e∈E,∀d,HT ops e.1=some d->o.dst≠some d):put ops (a.put o.dst v) E=(put ops a E).put o.dst v:=by
 induction E with
 | nil=>rfl
 | cons e E ih=>show(put ops (a.put o.dst v) E).put _ _=_;rw[ih (λx hx=>h x (bt _ hx)),Act.put_comm _ _ _ (λd hd ax=>h e df d ax hd)];rfl
theorem BY(hs:∀cs b,o.op≠.select cs b)(h:∀e∈E,∀d,HT ops e.1=some d->d ∉ o.looksAt ops):Abt (put ops a E).eval o=Abt a.eval o/\Aaa o (Aa1 ops (put ops a E).tmps)=Aaa o (Aa1 ops a.tmps):=by
 induction E with
 | nil=>exact⟨rfl,rfl⟩
 | cons e E ih=>have:=ih (λx hx=>h x (bt _ hx));exact⟨(execOp_put o hs _ _ _ (h e df)).trans this.1,(wanted_put o _ _ _ (h e df)).trans this.2⟩
theorem put_defers{d:Deferred}:put ops {a with defers:=d::a.defers} E={put ops a E with defers:=d::(put ops a E).defers}:=by
 induction E with
 | nil=>rfl
 | cons e E ih=>simp only[put];rw[ih];cases HT ops e.1<;>rfl
theorem O9:(put ops a E).defers=a.defers:=by
 induction E with
 | nil=>rfl
 | cons e E ih=>rw[<-ih];show((put ops a E).put _ _).defers=_;cases HT ops e.1<;>rfl
theorem aav(hs:∀cs b,o.op≠.select cs b)(h:∀e∈E,∀d,HT ops e.1=some d->d ∉ o.looksAt ops/\o.dst≠some d)(hQ:∀c a w b,a.defers=b.defers->Q (.panic c) a w->Q (.panic c) b w)(k:o.wp P a w (λa' w'=>K (put ops a' E) w') Q):o.wp P (put ops a E) w K Q:=by
 have c:=BY (a:=a) hs (λe he d hd=>(h e he d hd).1);have q:∀b v,put ops (Aao b o.dst v) E=(put ops b E).put o.dst v:=λb v=>GR (λe he d hd=>(h e he d hd).2);unfold Aca at *;rw[c.1];generalize(Abt a.eval o).run P w=r at *;cases r with
 | ok n w'=>
  cases n<;>simp only[Oper.upon]at k ⊢
  case value u=>rw[<-q];exact k
  case skip=>rw[<-q];exact k
  case defer d=>rw[<-put_defers,<-q];exact k
  case enter f args=>
   refine Calls.mono k λe aa he=>?_;cases e with
   | returned u=>simp only at he ⊢;rw[<-q];exact he
   | panicked c=>exact hQ _ _ _ _ O9.symm he
   | outgrown=>exact he
  case row row args=>exact Rows.mono k λu aa he=>by rw[<-q];exact he
 | halt x w'=>
  cases x<;>simp only[Oper.upon]at k ⊢
  case panic u=>exact hQ _ _ _ _ O9.symm k
structure Mo(P:bp)(ops:Array Abn)(x0:af)(L:List As)(l:Array Bool)(E:List (Nat × Nat))(w:af):Prop where
 nd:(E.map (·.1)).Nodup
 ds:∀a∈E,∀b∈E,a.1≠b.1->a.2≠b.2
 ok:∀e∈E,e.1∈SA P ops l/\Fsh x0 L e.2/\∃o t,ops[e.1]?=some o/\o.op=.alloc t/\aF w e.2 t (zc P t)
def RG(P:bp)(ops:Array Abn)(Q:Exit->Act->af->Prop)(F0:Nat->Prop)(x0:af)(L0 L:List As)(l:Array Bool)(a:Act)(x:af):Prop:=(∀A∈L0,A∈L)->∀E w,Up x w->Fr F0 x0 L w->Mo P ops x0 L l E w->Acp P .any ops Q (Sv F0 x0 L0) (mR (nZ l (E.map (·.1)))) (nZ l (E.map (·.1))) (put ops a E) w
structure yo(F0:Nat->Prop)(x0:af)(L:List As)(w:af)(L':List As)(w':af):Prop where
 s:Fr F0 x0 L' w'
 k:∀q t C,Fsh x0 L q->aF w q t C->Fsh x0 L' q/\aF w' q t C
section
variable {P:bp} {ops:Array Abn} {Q:Exit->Act->af->Prop} {F0:Nat->Prop} {x0:af} {L0 L L' N:List As} {l:Array Bool} {a:Act} {x w w':af} {o:Abn} {v:ah} {E:List (Nat × Nat)}
theorem ja{i:Nat}:i∈SA P ops l↔i∈CH ops l/\Ig P ops i=true:=by simp[SA]
def Cu{i:Nat}(h:i∈CH ops l):l.getD i true=false:=(vI.1 h).1
theorem Mo.up(r:Mo P ops x0 L l E w)(u:Up w w'):Mo P ops x0 L l E w':=⟨r.nd,r.ds,λe h=>by obtain⟨h1,h2,o,t,h3,h4,h5⟩:=r.ok e h;exact⟨h1,h2,o,t,h3,h4,h5.up u⟩⟩
theorem Mo.set(r:Mo P ops x0 L l E w){c:Nat}(hc:∀e∈E,e.1≠c):Mo P ops x0 L (l.setIfInBounds c true) E w:=⟨r.nd,r.ds,λe h=>by obtain⟨h1,h2⟩:=r.ok e h;obtain⟨h3,h4⟩:=ja.1 h1;exact⟨ja.2 ⟨vJ (E:=[c]) h3 (by simpa using hc e h),h4⟩,h2⟩⟩
theorem Mo.more(s:Fr F0 x0 L w)(r:Mo P ops x0 L l E w){i:Nat}{t:Aab}(hi:i∈SA P ops l)(hE:i ∉ E.map (·.1))(ho:ops[i]?=some o)(ht:o.op=.alloc t):Mo P ops x0 L l ((i,w.heap.size)::E) (w.alloc (.cells (zc P t) t)):=by
 have u:=ai w (.cells (zc P t) t);have r':=r.up u;refine⟨by rw[Acd,List.nodup_cons];exact⟨hE,r.nd⟩,?_,λe h=>?_⟩
 ·have lt:∀e∈E,e.2<w.heap.size:=λe he=>by obtain⟨_,_,_,_,_,_,hb⟩:=r.ok e he;exact hb.lt
  intro a ha b hb ar;rcases Aam.1 ha with rfl|ha<;>rcases Aam.1 hb with rfl|hb
  ·exact absurd rfl ar
  ·have:=lt b hb;simp only;omega
  ·have:=lt a ha;simp only;omega
  ·exact r.ds a ha b hb ar
 ·rcases Aam.1 h with rfl|h
  ·exact⟨hi,s.fsh (aE _),o,t,ho,ht,aF.new ..⟩
  ·exact r'.ok e h
theorem Hz(r:Mo P ops x0 L l E w)(h:∀e∈E,∀x,ops[e.1]?=some x->x.apart ops o=true\/o.apart ops x=true):∀e∈E,∀d,HT ops e.1=some d->d ∉ o.looksAt ops/\o.dst≠some d:=λe he d hd=>by
 obtain⟨_,_,x,t,hx,_,_⟩:=r.ok e he;have hd:x.dst=some d:=by simpa[HT,hx]using hd
 rcases h e he x hx with k|k
 ·obtain⟨k1,k2,k3⟩:=E9 k;exact⟨k1 d hd,k2 d hd⟩
 ·obtain⟨k1,k2,k3⟩:=E9 k;exact⟨k3 d hd,λe=>k2 d e hd⟩
theorem Pe(i:Nat){a':Act}(h:RG P ops Q F0 x0 L0 L (l.setIfInBounds i true) a' x)(hi:ops[i]?=some o)(hy:Acb P ops (Sv F0 x0 L0) o v a)(ha:a.put o.dst v=a')(hc:((CH ops l).contains i && !Ig P ops i && Adn .any ops l i && Abb ops)=true)(hQ:∀c a w b,a.defers=b.defers->Q (.panic c) a w->Q (.panic c) b w):RG P ops Q F0 x0 L0 L l a x:=by
 subst ha;intro hL E w u s r;simp only[Abe,Bool.not_eq_true']at hc;obtain⟨⟨⟨c1,c2⟩,c3⟩,c4⟩:=hc;have ir:i∈CH ops l:=by simpa using c1
 have hE:∀e∈E,e.1≠i:=λe he e2=>Ug
 have ab:i ∉ E.map (·.1):=λhm=>Uh
 have ap:=Hz (o:=o) r (λe he y hy=>by
  obtain⟨k1,y',k3,k4⟩:=vI.1 (ja.1 (r.ok e he).1).1;rw[hy]at k3;cases k3;refine .inr (Region.free_spec hi c3 e.1 _ hy (hE e he) k1 (λe' aa hb heq=>?_));obtain⟨k5,k6⟩:=az (k4 e' aa hb) (Cu ir);rw[heq]at k5;rcases jO i l.size with h'|h'
  ·simp[h']at k5 k6;rw[k6]at k5;cases k5
  ·simp[Array.getElem?_eq_none h']at k5)
 obtain⟨pe,hm⟩:=az (BY (ops:=ops) (a:=a) (E:=E) (yR c4 i o · · hi) (λe he d hd=>(ap e he d hd).1)) (vo (l:=l) ab);have hn:(nZ l (E.map (·.1))).getD i true=false:=by rw[k7,aY (λh=>ab h.1)];exact Cu ir
 rw[<-uc hn];refine wpAnyH_first hi (yR c4) (λc b w'=>hQ c _ w' _ (by cases o.dst<;>rfl)) _ _ _ w (λj oj hj hne ad ay=>Region.free_spec hi c3 j oj hj hne ?_ ay) (vJ ir ab) (hy.of_same pe.1 pe.2) (s.sv hL) ?_
 ·rw[k7]at ad;split at ad
  ·cases ad
  ·exact ad
 ·rw[<-hm,<-GR (λe he d hd=>(ap e he d hd).2)];exact h hL E w u s (r.set hE)
theorem abw(c:Nat)(h:∀w,Up x w->Fr F0 x0 L w->∀K:Act->af->Prop,(∀v w' L',yo F0 x0 L w L' w'->(∀A∈L0,A∈L->A∈L')->RG P ops Q F0 x0 L0 L' (l.setIfInBounds c true) (a.put o.dst v) w'->K (a.put o.dst v) w')->o.wp P a w K Q)(hi:ops[c]?=some o)(hw:Aaa o (Aa1 ops a.tmps)=true)(hc:(MC P ops l c && Abb ops)=true)(hQ:∀c a w b,a.defers=b.defers->Q (.panic c) a w->Q (.panic c) b w):RG P ops Q F0 x0 L0 L l a x:=by
 intro hL;unfold MC at hc;simp only[Abe,Bool.not_eq_true',Ac9]at hc;obtain⟨⟨⟨⟨c1,c2⟩,c3⟩,c5⟩,c4⟩:=hc;have ir:c∈CH ops l:=by simpa using c1
 suffices go:∀n E w,mR (nZ l (E.map (·.1)))=n->Up x w->Fr F0 x0 L w->Mo P ops x0 L l E w->Acp P .any ops Q (Sv F0 x0 L0) n (nZ l (E.map (·.1))) (put ops a E) w from λE w u s r=>go _ E w rfl u s r
 intro n;induction n with
 | zero=>
  intro E w hn u s r;exfalso;have ad:c ∉ E.map (·.1):=λhm=>by obtain⟨e,he,h2⟩:=Abd.1 hm;have:=(ja.1 (r.ok e he).1).2;rw[h2,c2]at this;cases this
  have:=uc (l:=nZ l (E.map (·.1))) (i:=c) (by rw[k7,aY (λh=>ad h.1)];exact Cu ir);omega
 | succ n ih=>
  intro E w hn u s r;have hE:∀e∈E,e.1≠c:=λe he e2=>Ug
  have ad:c ∉ E.map (·.1):=λhm=>Uh
  have cr:=vJ ir ad;refine⟨λh0=>(by unfold CH at cr;rw[h0]at cr;cases cr),λi hir=>?_⟩;have hir:i∈CH ops (nZ l (E.map (·.1))):=hir;by_cases ag:i=c
  ·subst ag;have ap:=Hz (o:=o) r (λe he y hy=>by have:=c5 e.1 (r.ok e he).1;rw[hy,hi]at this;exact .inl this)
   obtain⟨pe,hm,al⟩:=cZ (BY (ops:=ops) (a:=a) (E:=E) (yR c4 i o · · hi) (λe he d hd=>(ap e he d hd).1)) (vo (l:=l) ad) (uc (l:=nZ l (E.map (·.1))) (i:=i) (Cu cr));refine kW hi (pe.2.trans hw) (aav (yR c4 i o · · hi) ap hQ (h w u s _ (λv w' L' nx hl rg=>?_)));refine⟨nx.s.sv (λA hA=>hl A hA (hL A hA)),?_⟩
   ·have:=rg (λA hA=>hl A hA (hL A hA)) E w' (Up.refl _) nx.s ⟨r.nd,r.ds,λe he=>by obtain⟨h1,h2,o,t,h3,h4,h5⟩:=(r.set hE).ok e he;have:=nx.k _ _ _ h2 h5;exact⟨h1,this.1,o,t,h3,h4,this.2⟩⟩
    rw[hm]at this;have e:n=mR ((nZ l (E.map (·.1))).setIfInBounds i true):=ae
    rw[e];exact this
  ·have hf:i∈SA P ops l:=yS λhf=>ag (by
    have:=c3 i (Pb hir (λe he=>by obtain⟨e',aa,h2⟩:=Abd.1 he;rw[<-h2];exact(r.ok e' aa).1) hf)
    simpa using this)
   refine OJ ?_;intro ab;obtain⟨y,t,hy,ht,hg,hz⟩:=MJ (ja.1 hf).2;have ua:=ai w (.cells (zc P t) t);refine kW hy (by unfold Aaa;rw[hg]) (tS ht hz ⟨(s.up ua).sv hL,?_⟩);have:=ih ((i,w.heap.size)::E) (w.alloc (.cells (zc P t) t)) T6 (u.trans ua) (s.up ua) (r.more s hf ab hy ht)
   exact NT
theorem aau{j q:Nat}(ap:∀e∈E,e.1≠j->∀d,HT ops e.1=some d->HT ops j≠some d)(nd:(E.map (·.1)).Nodup)(h:(j,q)∈E):∃E':List (Nat × Nat),(∀e∈E',e∈E/\e.1≠j)/\(E'.map (·.1)).Nodup/\nZ l (E.map (·.1))=nZ (l.setIfInBounds j true) (E'.map (·.1))/\put ops a E=put ops (a.put (HT ops j) (pz q)) E':=by
 induction E with
 | nil=>cases h
 | cons e E ih=>
  rw[Acd,List.nodup_cons]at nd;rcases Aam.1 h with rfl|h
  ·have hj:∀e∈E,e.1≠j:=λe he h2=>nd.1 (Abd.2 ⟨e,he,h2⟩);refine⟨E,λe he=>⟨bt _ he,hj e he⟩,nd.2,?_,?_⟩
   ·show(nZ l _).setIfInBounds j true=_;rw[vo nd.1]
   ·show(put ops a E).put (HT ops j) (pz q)=_;have:=GR (ops:=ops) (a:=a) (E:=E) (o:={(default:Abn)with dst:=HT ops j}) (v:=pz q) (λe he d hd ax=>ap e (bt _ he) (hj e he) d hd ax);exact this.symm
  ·obtain⟨E',h1,h3,h4,h5⟩:=ih (λe he=>ap e (bt _ he)) nd.2 h;have aa:e.1≠j:=λh2=>nd.1 (Abd.2 ⟨_,h,h2.symm⟩);refine⟨e::E',λx hx=>?_,?_,?_,?_⟩
   ·rcases Aam.1 hx with rfl|hx
    ·exact⟨df,aa⟩
    ·exact⟨bt _ (h1 x hx).1,(h1 x hx).2⟩
   ·rw[Acd,List.nodup_cons];refine⟨λhm=>?_,h3⟩;obtain⟨x,hx,h2⟩:=Abd.1 hm;exact nd.1 (Abd.2 ⟨x,(h1 x hx).1,h2⟩)
   ·show(nZ l _).setIfInBounds e.1 true=(nZ _ _).setIfInBounds e.1 true;rw[h4]
   ·show(put ops a E).put _ _=(put ops _ E').put _ _;rw[h5]
theorem YE(j:Nat){t:Aab}{C:Array ah}{a':Nat->Act}(h:∀g w,Up x w->Fr F0 x0 (bk g t C::L) w->RG P ops Q F0 x0 L0 (bk g t C::L) (l.setIfInBounds j true) (a' g) w)(hi:ops[j]?=some o)(ho:o.op=.alloc t)(hC:zc P t=C)(hc:chN P ops l j=true)(ha:∀g,a.put o.dst (pz g)=a' g):RG P ops Q F0 x0 L0 L l a x:=by
 obtain rfl:(λg=>a.put o.dst (pz g))=a':=funext ha;intro hL;subst hC;unfold chN at hc;simp only[Abe,Ac9]at hc;obtain⟨⟨c1,c3⟩,c5⟩:=hc;have jf:j∈SA P ops l:=by simpa using c1
 have ir:=(ja.1 jf).1;suffices go:∀n E w,mR (nZ l (E.map (·.1)))=n->Up x w->Fr F0 x0 L w->Mo P ops x0 L l E w->Acp P .any ops Q (Sv F0 x0 L0) n (nZ l (E.map (·.1))) (put ops a E) w from λE w u s r=>go _ E w rfl u s r
 have dj:HT ops j=o.dst:=by simp[HT,hi]
 have done:∀E w,Up x w->Fr F0 x0 L w->Mo P ops x0 L l E w->j∈E.map (·.1)->Acp P .any ops Q (Sv F0 x0 L0) (mR (nZ l (E.map (·.1)))) (nZ l (E.map (·.1))) (put ops a E) w:=by
  intro E w u s r hj;obtain⟨⟨j',q⟩,he,aj⟩:=Abd.1 hj;have he:(j,q)∈E:=by rw[<-aj];exact he
  obtain⟨E',h1,h3,h4,h5⟩:=aau (ops:=ops) (a:=a) (l:=l) (λe he hne d hd=>by
   have:=c5 e.1 (r.ok e he).1;obtain⟨_,_,y,t,hy,_,_⟩:=r.ok e he;simp only[hy,hi,Bool.or_eq_true,beq_iff_eq,hne,false_or]at this;have hd:y.dst=some d:=by simpa[HT,hy]using hd
   rw[dj];exact(E9 this).2.1 d hd) r.nd he
  obtain⟨_,f,y,t',hy,ht,hb⟩:=r.ok _ he;have e1:y=o:=by simpa[hi]using hy.symm
  subst e1;have e2:t'=t:=by rw[ho]at ht;exact(Op.alloc.inj ht).symm
  subst e2;rw[h4,h5,dj];refine h q w u (s.add f hb) (λb hb=>bt _ (hL b hb)) E' w (Up.refl _) (s.add f hb) ⟨h3,λa ha b hb=>r.ds a (h1 a ha).1 b (h1 b hb).1,λe aa=>?_⟩;obtain⟨k1,k2,k3⟩:=(r.ok e (h1 e aa).1);obtain⟨m1,m2⟩:=ja.1 k1;refine⟨ja.2 ⟨vJ (E:=[j]) m1 (by simpa using(h1 e aa).2),m2⟩,⟨k2.1,λb hb=>?_⟩,k3⟩;rcases Aam.1 hb with rfl|hb
  ·exact λe3=>r.ds e (h1 e aa).1 _ he (h1 e aa).2 (show e.2=q from e3)
  ·exact k2.2 b hb
 intro n;induction n with
 | zero=>
  intro E w hn u s r;by_cases hj:j∈E.map (·.1)
  ·rw[<-hn];exact done E w u s r hj
  ·have:=uc (l:=nZ l (E.map (·.1))) (i:=j) (by rw[k7,aY (λh=>hj h.1)];exact Cu ir);omega
 | succ n ih=>
  intro E w hn u s r;by_cases hj:j∈E.map (·.1)
  ·rw[<-hn];exact done E w u s r hj
  have jr:=vJ ir hj;refine⟨λh0=>(by unfold CH at jr;rw[h0]at jr;cases jr),λi hir=>?_⟩;have hir:i∈CH ops (nZ l (E.map (·.1))):=hir;have hf:i∈SA P ops l:=yS λhf=>by
   have:=c3 i (Pb hir (λe he=>by obtain⟨e',aa,h2⟩:=Abd.1 he;rw[<-h2];refine wG.2 ⟨(r.ok e' aa).1,?_⟩;simp only[bne_iff_ne];exact λh=>hj (Abd.2 ⟨e',aa,h⟩)) (λh=>hf (wG.1 h).1))
   simp only[beq_iff_eq]at this;rw[this]at hf;exact hf jf
  refine OJ ?_;intro ab;obtain⟨y,t',hy,ht,hg,hz⟩:=MJ (ja.1 hf).2;have ua:=ai w (.cells (zc P t') t');refine kW hy (by unfold Aaa;rw[hg]) (tS ht hz ⟨(s.up ua).sv hL,?_⟩);have:=ih ((i,w.heap.size)::E) (w.alloc (.cells (zc P t') t')) T6 (u.trans ua) (s.up ua) (r.more s hf ab hy ht)
  exact NT
theorem YD(h:∀w,Up x w->Fr F0 x0 L w->Q .normal a w)(hr:CH ops l=[]):RG P ops Q F0 x0 L0 L l a x:=by
 intro hL E w u s r;have:E=[]:=by
  cases E with
  | nil=>rfl
  | cons e E=>have:=(ja.1 (r.ok e df).1).1;rw[hr]at this;cases this
 subst this;exact yO hr (h w u s) _
def lk(n k:Nat):Array Bool:=((Aak n).map λi=>decide (i<k)).toArray
theorem XS(n:Nat):lk n 0=Array.replicate n false:=by apply h3.1;rw[lk,Array.toList_replicate,Ac0];exact Bg aq aq
theorem T7(n k:Nat):(lk n k).setIfInBounds k true=lk n (k+1):=by
 apply h3.1;rw[lk,lk,Abl,Ac0,Ac0];refine Bg aq (λi h1 h2=>?_);rw[List.getElem_set];split
 ·subst_vars;simp
 ·simp only[List.getElem_map,List.getElem_range];rw[E'];omega
theorem aah{l:Array Bool}{J:List Nat}{k:Nat}(h:k∈J):nZ (l.setIfInBounds k true) J=nZ l J:=by
 induction J with
 | nil=>cases h
 | cons j J ih=>
  show(nZ _ J).setIfInBounds j true=(nZ l J).setIfInBounds j true;by_cases hk:k∈J
  ·rw[ih hk]
  ·rw[vo hk];have:k=j:=(Aam.1 h).resolve_right hk;subst this;rw[Array.setIfInBounds_setIfInBounds]
def ml(n:Nat)(J:List Nat)(k:Nat):Array Bool:=nZ (lk n k) J
theorem K3{n k:Nat}{J:List Nat}(h:J.contains k=false):(ml n J k).setIfInBounds k true=ml n J (k+1):=by unfold ml;rw[<-T7,vo jR]
def RK(P:bp)(ops:Array Abn)(Q:Exit->Act->af->Prop)(F0:Nat->Prop)(x0:af)(L0 L:List As)(J:List Nat)(k:Nat)(a:Act)(x:af):Prop:=RG P ops Q F0 x0 L0 L (ml ops.size J k) a x
theorem SD{D:As}(h:yq L D L':=by first|with_reducible exact .head|with_reducible exact .tail .head|with_reducible exact .tail (.tail .head)|with_reducible exact .tail (.tail (.tail .head))|with_reducible exact .tail (.tail (.tail (.tail .head)))|with_reducible exact .tail (.tail (.tail (.tail (.tail .head))))|with_reducible exact .tail (.tail (.tail (.tail (.tail (.tail .head)))))|with_reducible exact .tail (.tail (.tail (.tail (.tail (.tail (.tail .head))))))|with_reducible exact .tail (.tail (.tail (.tail (.tail (.tail (.tail (.tail .head)))))))|with_reducible exact .tail (.tail (.tail (.tail (.tail (.tail (.tail (.tail (.tail .head))))))))|with_reducible exact .tail (.tail (.tail (.tail (.tail (.tail (.tail (.tail (.tail (.tail .head)))))))))|with_reducible exact .tail (.tail (.tail (.tail (.tail (.tail (.tail (.tail (.tail (.tail (.tail .head))))))))))|with_reducible exact .tail (.tail (.tail (.tail (.tail (.tail (.tail (.tail (.tail (.tail (.tail (.tail .head)))))))))))):yq L D L':=h
variable {J:List Nat} {k:Nat} {v:ah} {ty t:Aab} {g off m n:Nat} {C C' V:Array ah}
theorem ka(L0:List As){id:Nat}(s:Fr F0 x0 L w)(hL:∀A∈L0,A∈L)(h:∀w,Fr F0 x0 L w->RK P ops Q F0 x0 L0 L [] 0 a w)(hm:P.follows .mixedOrders=true):(Code.region id ops true).wp P Q a w:=by have u:Up w w.drew:=Up.drew (Up.refl w);refine e7 (S:=Sv F0 x0 L0) hm ?_;have:=h w.drew (s.up u) hL [] w.drew (Up.refl _) (s.up u) ⟨.nil,λ_ h=>hE,λ_ h=>hE⟩;exact NU
theorem kb{id:Nat}(s:Fr F0 x0 L w)(h:∀w,Fr F0 x0 L w->RK P ops Q F0 x0 L L [] 0 a w)(hm:P.follows .mixedOrders=true:=by kernel_rfl):(Code.region id ops true).wp P Q a w:=ka L s (λ_ h=>h) h hm
theorem kw{id:Nat}(c:Nat){y z:bU}(s:Fr F0 x0 L w)(h:∀w,Fr F0 x0 L w->RK P ops Q F0 x0 L0 L [] 0 a w)(hi:ops[c]?=some o:=by rfl)(ho:o.op=.store ty y z:=by rfl)(hx:a.eval y=.pointer (some ⟨g,off,none⟩):=by rfl)(hr:yq L (bk g t C) L0:=by exact SD)(hm:P.follows .mixedOrders=true:=by kernel_rfl):(Code.region id ops true).wp P Q a w:=ka L0 s hr.sub h hm
theorem kw2{id:Nat}(c e:Nat){y z y2 z2:bU}{o2:Oper}{aa t2:TypeId}{g2 aF:Nat}{C2:Array ah}(s:Fr F0 x0 L w)(h:∀w,Fr F0 x0 L w->RK P ops Q F0 x0 L0 L [] 0 a w)(hi:ops[c]?=some o:=by rfl)(ho:o.op=.store ty y z:=by rfl)(hx:a.eval y=.pointer (some ⟨g,off,none⟩):=by rfl)(hr:yq L (bk g t C) L':=by exact SD)(ai:ops[e]?=some o2:=by rfl)(aC:o2.op=.store aa y2 z2:=by rfl)(aX:a.eval y2=.pointer (some ⟨g2,aF,none⟩):=by rfl)(aP:yq L' (bk g2 t2 C2) L0:=by exact SD)(hm:P.follows .mixedOrders=true:=by kernel_rfl):(Code.region id ops true).wp P Q a w:=ka L0 s (λA hA=>hr.sub A (aP.sub A hA)) h hm
theorem kt{a':Act}(h:RK P ops Q F0 x0 L0 L J (k+1) a' x)(hi:ops[k]?=some o:=by rfl)(hy:YieldsIf P ops (Sv F0 x0 L0) o v a:=by exact zyf)(hJ:J.contains k=false:=by rfl)(ha:a.put o.dst v=a':=by first|(simp only[Act.put,fB];rfl)|rfl)(hc:((CH ops (ml ops.size J k)).contains k && !Ig P ops k && Region.free .any ops (ml ops.size J k) k && Region.noSelect ops)=true:=by kernel_rfl)(hQ:∀c a w b,a.defers=b.defers->Q (.panic c) a w->Q (.panic c) b w:=by intro _ ⟨_,_⟩ _ ⟨_,_⟩ e h;cases e;exact h):RK P ops Q F0 x0 L0 L J k a x:=Pe k (by rw[K3 hJ];exact h) hi hy ha hc hQ
theorem kn{a':Nat->Act}(h:∀g w,Up x w->Fr F0 x0 (bk g t C::L) w->RK P ops Q F0 x0 L0 (bk g t C::L) J (k+1) (a' g) w)(hi:ops[k]?=some o:=by rfl)(ho:o.op=.alloc t:=by rfl)(hC:zc P t=C:=by exact zzf)(hJ:J.contains k=false:=by rfl)(hc:chN P ops (ml ops.size J k) k=true:=by kernel_rfl)(ha:∀g,a.put o.dst (pz g)=a' g:=by intro _;first|(simp only[Act.put,fB];rfl)|rfl):RK P ops Q F0 x0 L0 L J k a x:=YE k (λg w u s=>by rw[K3 hJ];exact h g w u s) hi ho hC hc ha
theorem ko(h:∀w,Up x w->Fr F0 x0 L w->∀K:Act->af->Prop,(∀v w' L',yo F0 x0 L w L' w'->(∀A∈L0,A∈L->A∈L')->RK P ops Q F0 x0 L0 L' J (k+1) (a.put o.dst v) w'->K (a.put o.dst v) w')->o.wp P a w K Q)(hJ:J.contains k=false)(hi:ops[k]?=some o)(hw:Aaa o (Aa1 ops a.tmps)=true)(hc:(MC P ops (ml ops.size J k) k && Abb ops)=true)(hQ:∀c a w b,a.defers=b.defers->Q (.panic c) a w->Q (.panic c) b w):RK P ops Q F0 x0 L0 L J k a x:=abw k (λw u s K hK=>h w u s K λv w' L' n hl r=>hK v w' L' n hl (by rw[K3 hJ];exact r)) hi hw hc hQ
theorem yo.res(s:Fr F0 x0 L w)(r:Rz w w' N):yo F0 x0 L w (N++L) w':=⟨s.res r,λq t C f b=>⟨⟨f.1,λA hA hq=>by
 rcases Aa8.1 hA with h|h
 ·have:=(r.f A h q hq).1;have:=b.lt;omega
 ·exact f.2 A h hq⟩,b.up r.u⟩⟩
theorem kc'{f:FuncId}{args:Array ah}{R:af->Ab2->af->Prop}(C:∀w,Up x w->Fr F0 x0 L w->Aae P f args w (R w))(h:∀w,Up x w->Fr F0 x0 L w->∀e w',R w e w'->∃v N,e=.returned v/\Rz w w' N/\RK P ops Q F0 x0 L0 (N++L) J (k+1) (a.put o.dst v) w')(hJ:J.contains k=false)(hi:ops[k]?=some o)(he:∀w,(Abt a.eval o).run P w=.ok (.enter f args) w)(hw:Aaa o (Aa1 ops a.tmps)=true)(hc:(MC P ops (ml ops.size J k) k && Abb ops)=true)(hQ:∀c a w b,a.defers=b.defers->Q (.panic c) a w->Q (.panic c) b w):RK P ops Q F0 x0 L0 L J k a x:=ko (λw u s K hK=>by
  unfold Aca;rw[he];refine(C w u s).mono λe w' hR=>?_;obtain⟨v,N,rfl,r,k⟩:=h w u s e w' hR;exact hK v w' _ (.res s r) (λA _ h=>oX _ h) k) hJ hi hw hc hQ
theorem kc{f:FuncId}{args:Array ah}{a':ah->Act}{R:af->Ending->af->Prop}(C:∀w,Up x w->Fr F0 x0 L w->Calls P f args w (R w))(h:∀w,Up x w->Fr F0 x0 L w->∀e w',R w e w'->∃v,e=.returned v/\Up w w'/\RK P ops Q F0 x0 L0 L J (k+1) (a' v) w')(hJ:J.contains k=false:=by rfl)(hi:ops[k]?=some o:=by rfl)(ha:∀v,a.put o.dst v=a' v:=by intro _;first|(simp only[Act.put,fB];rfl)|rfl)(he:∀w,(execOp a.eval o).run P w=.ok (.enter f args) w:=by intro _;kernel_rfl)(hw:Region.wanted o (yielded ops a.tmps)=true:=by rfl)(hc:(MC P ops (ml ops.size J k) k && Region.noSelect ops)=true:=by kernel_rfl)(hQ:∀c a w b,a.defers=b.defers->Q (.panic c) a w->Q (.panic c) b w:=by intro _ ⟨_,_⟩ _ ⟨_,_⟩ e h;cases e;exact h):RK P ops Q F0 x0 L0 L J k a x:=kc' C (λw u s e w' r=>by
  obtain⟨v,h1,h2,h3⟩:=h w u s e w' r;exact⟨v,[],h1,.z h2,by rw[ha];exact h3⟩) hJ hi he hw hc hQ
theorem xJ{f:FuncId}{args:Array ah}{a':ah->Act}{R:af->Ending->af->Prop}(C:∀w,Up x w->Fr F0 x0 L w->Calls P f args w (R w))(h:∀w,Up x w->Fr F0 x0 L w->∀e w',R w e w'->∃v A,e=.returned v/\Rz w w' [A]/\RK P ops Q F0 x0 L0 (A::L) J (k+1) (a' v) w')(hJ:J.contains k=false:=by rfl)(hi:ops[k]?=some o:=by rfl)(ha:∀v,a.put o.dst v=a' v:=by intro _;first|(simp only[Act.put,fB];rfl)|rfl)(he:∀w,(execOp a.eval o).run P w=.ok (.enter f args) w:=by intro _;kernel_rfl)(hw:Region.wanted o (yielded ops a.tmps)=true:=by rfl)(hc:(MC P ops (ml ops.size J k) k && Region.noSelect ops)=true:=by kernel_rfl)(hQ:∀c a w b,a.defers=b.defers->Q (.panic c) a w->Q (.panic c) b w:=by intro _ ⟨_,_⟩ _ ⟨_,_⟩ e h;cases e;exact h):RK P ops Q F0 x0 L0 L J k a x:=kc' C (λw u s e w' r=>by
  obtain⟨v,A,h1,h2,h3⟩:=h w u s e w' r;exact⟨v,[A],h1,h2,by rw[ha];exact h3⟩) hJ hi he hw hc hQ
theorem kpp{y z:bU}{a':Act}(aG:∀w,Fr F0 x0 L w->∃t C,aF w g t C/\off+V.size<=C.size/\(∃A∈L,A.F g)/\∀w',aF w' g t (Abx C.toList off V.toList).toArray->w.grownBy w' (some g)->Fr F0 x0 L' w')(hF:∀D∈L',∀n,D.F n->∃A∈L,A.F n)(h:∀w',Fr F0 x0 L' w'->RK P ops Q F0 x0 L0 L' J (k+1) a' w')(hJ:J.contains k=false)(hi:ops[k]?=some o)(ho:o.op=.store ty y z)(hx:a.eval y=.pointer (some ⟨g,off,none⟩))(hy:(a.eval z).cells=V)(aN:(P.info? ty).map (·.size)=some V.size)(h1:V.all (·.oneCell')=true)(hl:L0.Sublist L')(hw:Aaa o (Aa1 ops a.tmps)=true)(ha:a.put o.dst Aas=a')(hc:(MC P ops (ml ops.size J k) k && Abb ops)=true)(hQ:∀c a w b,a.defers=b.defers->Q (.panic c) a w->Q (.panic c) b w):RK P ops Q F0 x0 L0 L J k a x:=by subst ha;refine ko (λw u s K hK=>?_) hJ hi hw hc hQ;obtain⟨t,C,hb,hfit,⟨A,hA,a6⟩,hB⟩:=aG w s;refine mP ho hx hy hb aN hfit h1 λw' aI hg=>?_;have s':=hB w' aI hg;refine hK Aas w' L' ⟨s',λq t' C0 f b=>⟨⟨f.1,λD hD hq=>?_⟩,b.grown hg (λe=>f.2 A hA (by rw[<-dE e];exact a6))⟩⟩ (λA hA _=>hl.subset hA) (h w' s');obtain⟨E,hE,he⟩:=hF D hD q hq;exact f.2 E hE he
theorem kp{y z:bU}{A B:As}{a':Act}(aG:∀w,Fr F0 x0 L w->∃t C,aF w g t C/\off+V.size<=C.size/\A.F g/\∀w',aF w' g t (Abx C.toList off V.toList).toArray->w.grownBy w' (some g)->B.P w'/\∀n,B.F n->A.F n)(hF:∀n,B.F n->A.F n)(h:∀w',Fr F0 x0 L' w'->RK P ops Q F0 x0 L0 L' J (k+1) a' w')(hU:mW L A B L')(hJ:J.contains k=false)(hi:ops[k]?=some o)(ho:o.op=.store ty y z)(hx:a.eval y=.pointer (some ⟨g,off,none⟩))(hy:(a.eval z).cells=V)(aN:(P.info? ty).map (·.size)=some V.size)(h1:V.all (·.oneCell')=true)(hl:L0.Sublist L')(hw:Aaa o (Aa1 ops a.tmps)=true)(ha:a.put o.dst Aas=a')(hc:(MC P ops (ml ops.size J k) k && Abb ops)=true)(hQ:∀c a w b,a.defers=b.defers->Q (.panic c) a w->Q (.panic c) b w):RK P ops Q F0 x0 L0 L J k a x:=kpp (λw s=>by
  obtain⟨t,C,hb,hfit,hA,hB⟩:=aG w s;refine⟨t,C,hb,hfit,⟨A,hU.mem,hA⟩,λw' aI hg=>?_⟩;have T:Touch A.F w w':=Touch.bg hg (λk e=>by cases e;exact hA);exact s.Aj hU T (hB w' aI hg).1 (λn h=>⟨ej (s.f _ hU.mem n (hF n h)).1 T.size,.inl (hF n h)⟩)) (λD hD n hn=>by
  rcases hU.sub D hD with rfl|hD
  ·exact⟨A,hU.mem,hF n hn⟩
  ·exact⟨D,hD,hn⟩) h hJ hi ho hx hy aN h1 hl hw ha hc hQ
theorem ks{m n:Nat}{a':Act}(h:∀w',Fr F0 x0 L' w'->RK P ops Q F0 x0 L0 L' J (k+1) a' w')(hJ:J.contains k=false:=by rfl)(hi:ops[k]?=some o:=by rfl)(ho:o.op=.store ty (.tmp m) (.tmp n):=by rfl)(hx:a.eval (.tmp m)=.pointer (some ⟨g,0,none⟩):=by rfl)(hy:a.eval (.tmp n)=.agg C':=by rfl)(hU:mW L (bk g t C) (bk g t C') L':=by exact wc)(aN:(P.info? ty).map (·.size)=some C'.size:=by exact Sx)(h1:C'.all (·.oneCell')=true:=by exact zoa)(hold:C.size=C'.size:=by exact zhs)(hl:L0.Sublist L':=by repeat(first|exact List.Sublist.slnil|(with_reducible refine List.Sublist.cons₂ _ ?_)|refine List.Sublist.cons _ ?_))(hw:Region.wanted o (yielded ops a.tmps)=true:=by rfl)(ha:a.put o.dst undef=a':=by first|(simp only[Act.put,fB];rfl)|rfl)(hc:(MC P ops (ml ops.size J k) k && Region.noSelect ops)=true:=by kernel_rfl)(hQ:∀c a w b,a.defers=b.defers->Q (.panic c) a w->Q (.panic c) b w:=by intro _ ⟨_,_⟩ _ ⟨_,_⟩ e h;cases e;exact h):RK P ops Q F0 x0 L0 L J k a x:=kp (A:=bk g t C) (B:=bk g t C') (λw s=>⟨t,C,s.fg hU.mem,ae,rfl,λw' hb _=>⟨by rw[Cg hold]at hb;exact hb,λ_ h=>h⟩⟩) (λ_ h=>h) h hU hJ hi ho hx zo aN h1 hl hw ha hc hQ
theorem kj(i:Nat){a':Act}(h:RK P ops Q F0 x0 L0 L (i::J) k a' x)(hi:ops[i]?=some o:=by rfl)(hy:YieldsIf P ops (Sv F0 x0 L0) o v a:=by exact zyf)(ha:a.put o.dst v=a':=by first|(simp only[Act.put,fB];rfl)|rfl)(hc:((CH ops (ml ops.size J k)).contains i && !Ig P ops i && Region.free .any ops (ml ops.size J k) i && Region.noSelect ops)=true:=by kernel_rfl)(hQ:∀c a w b,a.defers=b.defers->Q (.panic c) a w->Q (.panic c) b w:=by intro _ ⟨_,_⟩ _ ⟨_,_⟩ e h;cases e;exact h):RK P ops Q F0 x0 L0 L J k a x:=Pe i h hi hy ha hc hQ
theorem kx(h:RK P ops Q F0 x0 L0 L J (k+1) a x)(hJ:J.contains k=true:=by rfl):RK P ops Q F0 x0 L0 L J k a x:=by unfold RK ml at *;rw[<-T7,aah (by simpa using hJ)]at h;exact h
theorem kd(h:∀w,Up x w->Fr F0 x0 L w->Q .normal a w)(hr:CH ops (ml ops.size J k)=[]:=by kernel_rfl):RK P ops Q F0 x0 L0 L J k a x:=YD h hr
end
section
variable {P:bp} {ops:Array Abn} {Q:Exit->Act->af->Prop} {F0:Nat->Prop} {x0:af} {L L':List As} {a:Act} {w:af} {op:Abn} {v:ah} {rest:List Abn} {ty t:Aab} {g off m n:Nat} {C C' V:Array ah} {d:eQ}
theorem abd(s:Fr F0 x0 L w)(h:Aal P ops Q rest (a.put op.dst v) w)(hy:Acb P ops (Sv F0 x0 L) op v a):Aal P ops Q (op::rest) a w:=by
 rcases hy with⟨h1,h2⟩|⟨h1,rfl⟩
 ·exact qw h1 λK hK=>W1 (h2 w (s.sv λ_ h=>h)) (hK _ _ h)
 ·unfold Aal;rw[h1];simpa using h
theorem fl(s:Fr F0 x0 L w)(h:wpList P ops Q rest (a.put op.dst v) w)(hy:YieldsIf P ops (Sv F0 x0 L) op v a:=by first
 | exact ZH kJ aA hM aA gG Sx aA
 | exact ZJ kJ aA hM aA gG (by intro _ h;first|with_reducible exact mM h cj cj|with_reducible exact Cy h cj cj|with_reducible exact Cz h cj cj|with_reducible exact Ca h|with_reducible exact Cs h) Sx aA
 | exact W5 kJ aA gG zvo F1 aA
 | exact W6 kJ aA hM aA zas zno Sx aA
 | exact ZI kJ aA zas zno F1 aA
 | exact Pr aA zbs zas aA
 | exact W4 kJ (by first|with_reducible exact Af|with_reducible exact ib|with_reducible exact sQ|with_reducible exact Dg|with_reducible exact De|with_reducible exact Dh) aA):wpList P ops Q (op::rest) a w:=abd s h hy
theorem fs(s:Fr F0 x0 L w)(h:∀w,Fr F0 x0 L' w->wpList P ops Q rest (a.put op.dst undef) w)(ho:op.op=.store ty (.tmp m) (.tmp n):=by with_reducible rfl)(hx:a.eval (.tmp m)=.pointer (some ⟨g,0,none⟩):=by rfl)(hy:a.eval (.tmp n)=.agg C':=by rfl)(hU:mW L (bk g t C) (bk g t C') L':=by exact wc)(hi:(P.info? ty).map (·.size)=some C'.size:=by exact Sx)(h1:C'.all (·.oneCell')=true:=by exact zoa)(hold:C.size=C'.size:=by exact zhs)(hgd:op.guard=none:=by rfl):wpList P ops Q (op::rest) a w:=h' hgd λK hK=>mP ho hx zo (s.fg hU.mem) hi ae h1 λw' hb hg=>hK _ _ (h w' (s.set hU (by rw[<-Cg hold];exact hb) hg))
def aaD(c v:ah):(Abx (#[c]:Array ah).toList 0 (#[v]:Array ah).toList).toArray=#[v]:=rfl
theorem fp(s:Fr F0 x0 L w)(h:∀w,Fr F0 x0 L' w->wpList P ops Q rest (a.put op.dst undef) w){y:bU}(ho:op.op=.store ty (.tmp m) y:=by with_reducible rfl)(hx:a.eval (.tmp m)=.pointer (some ⟨g,off,none⟩):=by rfl)(hy:(a.eval y).cells=V:=by exact zcv)(hm:bk g t C∈L:=by exact gG)(hV:(splice C.toList off V.toList).toArray=C':=by first|with_reducible exact aaD .. | with_reducible exact YU .. | with_reducible exact YW .. | with_reducible exact abz .. | with_reducible exact abA .. | with_reducible exact abC .. | with_reducible exact abB .. | with_reducible exact abD .. | assumption)(hU:mW L (bk g t C) (bk g t C') L':=by exact wc)(hfit:off+V.size<=C.size:=by first|assumption|exact Fa aA)(hi:(P.info? ty).map (·.size)=some V.size:=by exact Sx)(h1:V.all (·.oneCell')=true:=by exact zoa)(hgd:op.guard=none:=by rfl):wpList P ops Q (op::rest) a w:=h' hgd λK hK=>mP ho hx hy (s.fg hU.mem) hi hfit h1 λw' hb hg=>hK _ _ (h w' (s.set hU (by rw[<-hV];exact hb) hg))
theorem fb(s:Fr F0 x0 L w)(h:∀g w,Fr F0 x0 (bk g ty C::L) w->wpList P ops Q rest (a.put op.dst (pz g)) w)(ho:op.op=.box ty (.tmp n):=by with_reducible rfl)(hx:(a.eval (.tmp n)).cells=C:=by exact zcv)(hgd:op.guard=none:=by rfl):wpList P ops Q (op::rest) a w:=h' hgd λK hK=>JD ho hx (hK _ _ (h _ _ (s.alloc ty C)))
theorem fa(s:Fr F0 x0 L w)(h:∀g w,Fr F0 x0 (bk g ty C::L) w->wpList P ops Q rest (a.put op.dst (pz g)) w)(ho:op.op=.alloc ty:=by with_reducible rfl)(hC:zc P ty=C:=by exact zzf)(hz:zk P ty=true:=by kernel_rfl)(hgd:op.guard=none:=by rfl):wpList P ops Q (op::rest) a w:=by subst hC;exact h' hgd λK hK=>tS ho hz (hK _ _ (h _ _ (s.alloc ty _)))
def ab3{F0:Nat->Prop}{x0:af}{L:List As}{w:af}{Y:af->Prop}{Z:Prop}(h:∀(_:Nat) w,Fr F0 x0 L w->Y w)(s:Fr F0 x0 L w)(k:Y w->Z):Z:=k (h 0 w s)
def abe{Y:af->Prop}{Z:Prop}(h:∀(_:Nat) w,Y w)(k:(∀w,Y w)->Z):Z:=k (h 0)
theorem fw{H:Prop}(s:Fr F0 x0 L w)(h:H)(d:Fr F0 x0 L w->H->wpList P ops Q (op::rest) a w:=by first
 | exact λs h=>ab3 h s (λx=>fl s x)
 | exact λs h=>abe h (λx=>fs s x)
 | exact λs h=>abe h (λx=>fp s x)
 | exact λs h=>fa s h
 | exact λs h=>fb s h):wpList P ops Q (op::rest) a w:=d s h
end
inductive Rs (P:bp) (L:List As) (tm:Array ah):List Ac8->List ah->Prop
 | nil:Rs P L tm [] []
 | tmp {u:Tmp} {v:ah} {rs:List Ac8} {vs:List ah} (r:Rs P L tm rs vs) (h:tm.getD u Aas=v:=by exact zvv):Rs P L tm (.tmp u::rs) (v::vs)
 | cell {p:Tmp} {g:Nat} {ty t:Aab} {C:Array ah} {d:eQ} {rs:List Ac8} {vs:List ah} (r:Rs P L tm rs vs) (h:tm.getD p Aas=pz g:=by rfl) (hm:bk g t C∈L:=by exact gG) (hu:P.underlying ty=some d:=by exact hM) (hd:d.isRow=true:=by rfl) (hi:(P.info? ty).map (·.size)=some C.size:=by exact Sx):Rs P L tm (.cell p ty::rs) (.agg C::vs)
def rv:List ah->ah
 | [x]=>x
 | l=>.tuple l.toArray
section
variable {P:bp} {F0:Nat->Prop} {x0:af} {L:List As} {a:Act} {w:af} {rs:List Ac8} {vs:List ah}
theorem aaz{tm:Array ah}(hL:∀A∈L,A.P w)(h:Rs P L tm rs vs):(rs.mapM (m:=Sem) λ| .tmp t=>pure (tm.getD t Aas) | .cell a t=>do loadVar t (<-asAddr (tm.getD a Aas))).run P w=.ok vs w:=by
 induction h with
 | nil=>rfl
 | tmp r h ih=>rw[List.mapM_cons,Aay,Ac7,Aax,h,Aay,ih];rfl
 | cell r h hm hu hd hi ih=>rw[List.mapM_cons,Aay];have e:=cn asAddr h;rw[show asAddr (pz _)=pure _ from rfl]at e;simp only[e,pure_bind,iF (P:=P) _ _ _ _ (show aF w _ _ _ from hL _ hm) _ hu hd hi,Aax,Aay,ih];rfl
theorem me{fn:Func}{R:Ending->af->Prop}{v:ah}(s:Fr F0 x0 L w)(hR:R (.returned v) w)(hf:fn.results=⟨rs⟩:=by first|exact(rfl:_=(⟨[_,_,_]⟩:Array ResultVar))|exact(rfl:_=(⟨[_,_]⟩:Array ResultVar))|exact(rfl:_=(⟨[_]⟩:Array ResultVar))|rfl)(hr:Rs P L a.tmps rs vs:=by first|exact .tmp .nil|exact .cell .nil|exact .tmp (.tmp .nil)|exact .tmp (.cell .nil)|exact .cell (.tmp .nil)|exact .cell (.cell .nil)|exact .tmp (.tmp (.tmp .nil))|exact .tmp (.tmp (.cell .nil))|exact .tmp (.cell (.tmp .nil))|exact .tmp (.cell (.cell .nil))|exact .cell (.tmp (.tmp .nil))|exact .cell (.tmp (.cell .nil))|exact .cell (.cell (.tmp .nil))|exact .cell (.cell (.cell .nil)))(hv:rv vs=v:=by rfl)(hd:a.defers=[]:=by rfl):bodyPost P fn R .ret a w:=by
 refine kF ?_ hd hR;have:=aaz s.p hr;unfold results;rw[hf];show((rs.toArray.mapM _) >>= _:Sem ah).run P w=_;rw[List.mapM_toArray,Aay,map_eq_pure_bind,Aay];erw [this];subst hv;cases vs with
 | nil=>rfl
 | cons x vs=>cases vs<;>rfl
end
theorem acx:zc Aag 87=be hole:=al
theorem acs:zc Aag 60=aC aM:=al
theorem e5{g g':Nat}{t t':Aab}{C C':Array ah}(h:aF w g t C)(h':aF w g' t' C')(ht:t≠t'):g≠g':=by grind [aF]
theorem fal{F0:Nat->Prop}{x0:af}{L:List As}{op:Oper}(C:Array ah)(t:TypeId)(v:Nat->ah)(s:Fr F0 x0 L w)(h:∀g w,Fr F0 x0 (bk g t C::L) w->wpList P ops Q rest (a.put op.dst (v g)) w)(hv:∀w,(execOp a.eval op).run P w=.ok (.value (v w.heap.size)) (w.alloc (.cells C t)):=by intro _;kernel_rfl)(hgd:op.guard=none:=by rfl):wpList P ops Q (op::rest) a w:=h' hgd λ_ hK=>W1 (hv w) (hK _ _ (h _ _ (s.alloc t C)))
def op(b:Nat)(v:ah)(l:List au):As:=⟨λn=>v.ownBlock=some n,λw=>bf w b v l,λh T hf=>h.ax T hf⟩
section
variable {F0:Nat->Prop} {x0:af} {L:List As} {w w':af} {b B:Nat} {v:ah} {l:List au}
theorem Rz.q(h:bf w' w.heap.size v l)(u:Up w w')(hB:B<=w.heap.size):Rz w w' [op B v l]:=.one u (h.mono hB) (h.aJ)
def Rz.qq{v2:ah}{l2:List au}(h:bf w' w.heap.size v l)(h2:bf w' w.heap.size v2 l2)(u:Up w w')(hB:B<=w.heap.size):Rz w w' [jn (op B v l) (op B v2 l2)]:=.one u ⟨h.mono hB,h2.mono hB⟩ (λn hn=>hn.elim (h.aJ n) (h2.aJ n))
theorem Fr.Zy{b2:Nat}{v2:ah}{l2:List au}(s:Fr F0 x0 L w)(h:jn (op b v l) (op b2 v2 l2)∈L:=by exact gG):bf w b v l/\bf w b2 v2 l2:=s.p _ h
theorem Fr.CU(s:Fr F0 x0 L w)(h:op b v l∈L:=by exact gG):bf w b v l:=s.p _ h
end
theorem wx(x:cS):(prog.info? 60).map (·.size)=some (aC x.val).size:=by grind [bX,dw]
def tV:hT:=⟨0,0,hole,0,0⟩
def Cq(s:List aj):hT:=⟨bn ((s.drop 4).take 8),bn ((s.drop 12).take 8),mq ((s.drop 20).take 16),(bn ((s.drop 36).take 4):Nat),(bn ((s.drop 40).take 4):Nat)⟩
def lr(s:List aj):Option hT:=if eT (Cq s)=true/\eY (Cq s)=s then some (Cq s)else none
def SX(s:List aj)(w:af)(e:Ab2)(w':af):Prop:=e=.returned (.tuple #[.agg (uC ((lr s).getD tV)),.bool (lr s).isSome])/\Up w w'
theorem Y2(s:List aj):(Cq s).wf:=by have h1:=fU (l:=(s.drop 4).take 8) (k:=8) ab;have h2:=fU (l:=(s.drop 12).take 8) (k:=8) ab;have h3:=fU (l:=(s.drop 36).take 4) (k:=4) ab;have h4:=fU (l:=(s.drop 40).take 4) (k:=4) ab;have h5:=fU (l:=((s.drop 20).take 16).take 4) (k:=4) ab;have h6:=fU (l:=(((s.drop 20).take 16).drop 4).take 8) (k:=8) ab;have h7:=fU (l:=((s.drop 20).take 16).drop 12) (k:=4) ab;grind [hT.wf,Cq,mq,au.wf]
theorem Td(u:hT):prog.built 122 [(0,.int .u64 (u.dz:Int)),(1,.int .u64 (u.ay:Int)),(2,.agg (be u.iV)),(3,.int .i64 u.len),(4,.int .i64 u.sec)]=some (uC u):=al
theorem Dh:prog.built 122 []=some (uC tV):=al
theorem Za:∀W:af,(Acj 122).run Aag W=.ok (.agg (uC tV)) W:=(lA (P:=Aag) (t:=122) (v:=.agg (uC tV)) (n:=7) aA).1
theorem Sg{s:List aj}(h:cA (mq ((s.drop 20).take 16))=false):lr s=none:=by grind [lr,kQ,Cq]
theorem Kz(h:κ b=16):c8 [8,8] b=[bn (b.take 8),bn (b.drop 8)]:=by show [bn (b.take 8),bn ((b.drop 8).take 8)]=_;rw[dq (l:=b.drop 8) ab]
theorem Ky(h:κ b=8):c8 [4,4] b=[bn (b.take 4),bn (b.drop 4)]:=by show [bn (b.take 4),bn ((b.drop 4).take 4)]=_;rw[dq (l:=b.drop 4) ab]
theorem abX:zc Aag 122=uC tV:=al
theorem Aa{f:α->ah}(h:aF w g t C)(l:List α)(n:Nat)(hn:n=κ l)(hm:n<=maxLen)(hC:C.toList=l.map f)(h0:0<n:=by omega):aD f w (cD g n n) l:=.inr ⟨g,0,n,by rw[hn],ae,ae,ae,λi hi=>by rw[h.cell,Aby,<-oW,hC];simp[hi]⟩
theorem abf{g q lo n cap:Nat}{t t2:Aab}{x y:Int}{l:List aj}(h:aF w g t #[i6 x,i6 y])(b:aF w q t2 (aC l))(hl:κ l=128)(h1:lo+n<=128)(h0:0<n)(hc:n<=cap)(hm:cap<=128)(hw:yv [x,y])(hn:total [x,y]=n)(k:Nat)(k2:Nat)(hg:c8 [x,y] ((l.drop lo).take n)=[k,k2]):Aae Aag 177 #[cD g 2 2,.slice (some ⟨q,lo,none⟩) n cap] w λe w'=>∃g c,e=.returned (.tuple #[.slice (some ⟨g,0,none⟩) 2 c,i6 0])/\w'.cell? ⟨g,0,none⟩=some (u6 (k:Int))/\w'.cell? ⟨g,1,none⟩=some (u6 (k2:Int))/\w.heap.size<=g/\Up w w':=by refine(uy _ _ [x,y] (Aa h [x,y] 2 rfl dK rfl) aq _ _ (iA b lo n cap ae h0 hc hm) ⟨hw,by rw[hn,ez,hA];omega⟩).mono ?_;rintro e w'⟨v,rfl,ho,hu⟩;rw[hg]at ho;obtain⟨g,c,rfl,h4,_,hc,_⟩:=Own.row ho aq;exact⟨g,c,rfl,hc 0 aq,hc 1 aq,h4,hu⟩
theorem Sf(w:af)(l:List aj)(hs:κ l=128):Aae Aag 168 #[.agg (aC l)] w λe w'=>SX l w e w':=by
 obtain⟨w0,rfl⟩:=bE w;have HS:=an hs;have aJ:∀q W,(Abo 60 (pz q) (some (i6 4)) (some (i6 20)) none).run Aag W=.ok (.slice (some ⟨q,4,none⟩) 16 124) W:=λq W=>oo q 4 20 4 20 rfl rfl ae ae ae W;have aK:∀q W,(Abo 60 (pz q) (some (i6 20)) (some (i6 36)) none).run Aag W=.ok (.slice (some ⟨q,20,none⟩) 16 108) W:=λq W=>oo q 20 36 20 36 rfl rfl ae ae ae W;have aL:∀q W,(Abo 60 (pz q) (some (i6 36)) (some (i6 44)) none).run Aag W=.ok (.slice (some ⟨q,36,none⟩) 8 92) W:=λq W=>oo q 36 44 36 44 rfl rfl ae ae ae W;obtain⟨tx,aa⟩:=bE (bn ((l.drop 4).take 8));obtain⟨st,aG⟩:=bE (bn ((l.drop 12).take 8));obtain⟨ln,aO⟩:=bE (bn ((l.drop 36).take 4));obtain⟨sc,aq⟩:=bE (bn ((l.drop 40).take 4));have G1:=an (show c8 [8,8] ((l.drop 4).take 16)=[tx,st] by rw[Kz (by rw[ez,hA,hs];rfl),List.take_take,List.drop_take,Ac4,aa,aG];rfl)
 have G2:=an (show c8 [4,4] ((l.drop 36).take 8)=[ln,sc] by rw[Ky (by rw[ez,hA,hs];rfl),List.take_take,List.drop_take,Ac4,aO,aq];rfl)
 have aE:ln<4294967296:=by have:=fU (l:=(l.drop 36).take 4) (k:=4) ab;omega
 have aF:sc<4294967296:=by have:=fU (l:=(l.drop 40).take 4) (k:=4) ab;omega
 have wl:=aX ln ae;have ws:=aX sc ae;obtain⟨HU,i60⟩:=aw (show Cq l=⟨tx,st,mq ((l.drop 20).take 16),(ln:Int),(sc:Int)⟩ from by unfold Cq;rw[<-aa,<-aG,<-aO,<-aq]) (show(prog.info? 60).map (·.size)=some (aC l).size by rw[bX,hs];exact dw);have s:=Fr.start w0;clear hs aa aG aO aq aE aF;go_in;go_wp2_with(refine fw s ?_;intro _ w s);have s:=s.alloc 3 #[i6 8,i6 8];change Fr _ _ (bk ?g3 3 _::bk ?q2 122 _::bk ?q1 60 _::_) _ at s;obtain⟨q4,q5⟩:=az ((s.f (bk ?q2 122 _) gG _ rfl).1) ((s.f (bk ?q2 122 _) gG _ rfl).2.resolve_left id);refine(abf (s.fg (t:=3) gG) (s.fg (t:=60) gG) HS ae ae ae ae av av _ _ G1).mono ?_;rintro e w1⟨g4,c4,rfl,m0,m1,h4,u1⟩;have s:=s.up u1;obtain⟨U1,z1,b1⟩:=cZ s.pure (s.fg (t:=122) gG) (s.fg (t:=60) gG);have n4:¬(bk ?q2 122 (uC tV)).F g4:=by show g4≠_;omega
 have s:=Fr.start w1;go_wp2_with fail;refine(qP w1 _ _ (iA b1 20 16 108 (by rw[HS.out];omega) ae ae ae) (by rw[ez,hA,HS.out];rfl)).mono ?_;rintro e w2(⟨root,au,rfl,u2⟩|⟨aB,rfl,u2⟩);rotate_left
 ·have HF:lr l=none:=Sg (by
   unfold mu at aB;split at aB
   ·cases aB
   ·rename_i hh;rw[<-uJ];exact λhg=>hh ⟨by rw[ez,hA,HS.out];rfl,hg⟩)
  obtain⟨U2,z2⟩:=az (U1.trans u2) (z1.up u2);have s:=Fr.from (A:=bk ?q2 122 (uC tV)) z2 (λn h=>by rw[show n=_ from h];exact z2.lt);clear G1 G2 aB wl ws;rw[show fI hole=.agg (be hole)from rfl];go_wp2_with(refine fw s ?_;intro _ w s);refine bj ?_;exact⟨by rw[HF]<;>rfl,s.t.up U2 (λn h=>by rw[show n=_ from h];exact q5)⟩
 have ai:mq ((l.drop 20).take 16)=root:=by
  unfold mu at au;split at au
  ·exact dE au
  ·cases au
 have HU:=an (HU.out.trans (by rw[ai]));have s:=s.up u2;clear au ai u2;rw[show fI root=.agg (be root)from rfl];go_wp2_with(refine fw s ?_;intro _ w s);have s:=s.alloc 3 #[i6 4,i6 4];have q7:=ej z1.lt s.pure.size;refine(abf (s.fg (t:=3) gG) (b1.up s.pure) HS ae ae ae ae av av _ _ G2).mono ?_;rintro e w5⟨g7,c7,rfl,k0,k1,h7,u5⟩;have s:=s.up u5;obtain⟨U5,B8⟩:=az s.pure (s.fg (t:=87) gG);obtain⟨z5,b5,j0,j1⟩:=iv (z1.up U5) (b1.up U5) (U5.cell m0) (U5.cell m1);have n7:¬(bk ?q2 122 (uC tV)).F g7:=by show g7≠_;omega
 have n8:¬(bk ?q2 122 (uC tV)).F _:=e5 B8 z5 av;have n1:¬(bk ?q2 122 (uC tV)).F ?q1:=e5 b5 z5 av;obtain⟨R8,R5,U0⟩:=cZ B8.range b5.range (U1.trans U5);obtain⟨u,ak⟩:=bE (Cq l);have ao:u.wf:=by rw[ak];exact Y2 l
 have al:lr l=if eT u=true/\eY u=l then some u else none:=by rw[ak];rfl
 have ax:prog.built 122 [(0,u6 (tx:Int)),(1,u6 (st:Int)),(2,.agg (be root)),(3,i6 (ln:Int)),(4,i6 (sc:Int))]=some (uC u):=by rw[ak,HU.out];exact Td ⟨tx,st,root,(ln:Int),(sc:Int)⟩
 obtain⟨aI,aH⟩:=az (xd u) (EO u);replace ao:=an ao;replace al:=an al;have s:=Fr.from (A:=bk ?q2 122 (uC tV)) z5 (λn h=>by rw[show n=_ from h];exact z5.lt);clear m0 m1 z1 b1 B8 ak HU G1 G2 U1 u5;go_wp2_with fail;refine kb s (λw s=>?_);iterate 10 refine kt ?_
 refine kt (v:=i6 (ln:Int)) ?_ (hy:=ya);iterate 3 refine kt ?_
 refine kt (v:=i6 (sc:Int)) ?_ (hy:=ya);refine kt ?_;refine kn (λ_ w _ s=>?_);refine ks (λw s=>?_);refine kd (λw _ s=>?_);clear ax;go_wp2_with(refine fw s ?_;intro _ w s);refine(Ct _ u ao).mono ?_;rintro e w⟨rfl,u8⟩;have s:=s.up u8;obtain⟨VL,ad,ay,ag,aD⟩:=eW ((q6 u).property) (show eT u=true->(q6 u).val=eY u from λh=>by unfold q6;rw[bI h]) (wx (q6 u)) (dx (q6 u).val) (show(aC aM).size=(aC (q6 u).val).size by rw[bX,bX,(q6 u).property];rfl);have EQ:=LQ (q6 u).val l (q6 u).property HS;have FIN:∀{w' v},Touch (bk ?q2 122 (uC tV)).F w5 w'->lr l=v->SX l w0 (.returned (.tuple #[.agg (uC (v.getD tV)),.bool v.isSome])) w':=λT h=>by subst h;exact⟨rfl,T.up U0 (λn h=>by rw[show n=_ from h];exact q5)⟩
 cases hr:eT u
 ·have HE:WG u=61:=by unfold WG;rw[hr];rfl
  rw[HE];generalize(q6 u).val=V at *;clear HE EQ ad;go_wp2_with(refine fw s ?_;intro _ w s);refine bj ?_;exact FIN (v:=none) s.t (by rw[al.out,aY];rintro⟨h,_⟩;rw[hr]at h;cases h)
 have ar:=ad hr;have HE:WG u=0:=by unfold WG;rw[bI hr]
 rw[HE];by_cases hb:eY u=l
 ·rw[ar,h8 hb,<-ar]at EQ;generalize(q6 u).val=V at *;clear HE ad ar;go_wp2_with(refine fw s ?_;intro _ w s);refine bj ?_;exact FIN (v:=some u) s.t (by rw[al.out,bI ⟨hr,hb⟩])
 ·rw[ar,jj hb,<-ar]at EQ;generalize(q6 u).val=V at *;clear HE ad ar;go_wp2_with(refine fw s ?_;intro _ w s);refine bj ?_;exact FIN (v:=none) s.t (by rw[al.out,aY];rintro⟨_,h⟩;exact hb h)
theorem Jj(w:af)(u:hT):Aae Aag 169 #[.agg (uC u)] w λe w'=>e=.returned (i6 ((u.dz%4:Nat):Int))/\Up w w':=by obtain⟨B1,U1⟩:=aw (aF.new w 122 (uC u)) (ai w (.cells (uC u) 122));obtain⟨dz,ay,iV,len,sec⟩:=u;obtain⟨c0,c1,c2,c5,c6,R2⟩:=yl B1;have wr:=aX (dz%4) ae;rw[show((dz%4:Nat):Int)=(dz:Int)%4 from ae]at wr;clear c1 c2 c5 c6;go_in;go_wp2;go_ret;exact⟨aq,U1⟩
theorem Xz(w:af)(a b:Nat):Aae Aag 172 #[u6 (a:Int),u6 (b:Int)] w λe w'=>e=.returned (i6 (if a<b then -1 else if b<a then 1 else 0))/\w=w':=by
 have NB:∀x:Int,(x != x)=false:=λx=>aq
 by_cases h1:a<b
 ·have b1:((a:Int)<(b:Int))=True:=by simp;omega
  rw[bI h1];clear h1;exact F6
 have b1:((a:Int)<(b:Int))=False:=ab
 rw[aY h1];by_cases h2:b<a
 ·have b2:((b:Int)<(a:Int))=True:=by simp;omega
  rw[bI h2];clear h1 h2;exact F6
 have b2:((b:Int)<(a:Int))=False:=ab
 rw[aY h2];clear h1 h2;exact F6
def HN(u v:hT):Int:=if u.dz<v.dz then -1 else if v.dz<u.dz then 1 else 0
theorem WJ(w:af)(u v:hT):Aae Aag 171 #[.agg (uC u),.agg (uC v)] w λe w'=>e=.returned (i6 (HN u v))/\w'=(w.alloc (.cells (uC u) 122)).alloc (.cells (uC v) 122):=by have B1:=an ((aF.new w 122 (uC u)).up (ai (w.alloc (.cells (uC u) 122)) (.cells (uC v) 122)));have b2:=aF.new (w.alloc (.cells (uC u) 122)) 122 (uC v);rw[aN]at b2;obtain⟨B2,CM,HC⟩:=aV b2 (Xz ((w.alloc (.cells (uC u) 122)).alloc (.cells (uC v) 122)) u.dz v.dz) (show HN u v=if u.dz<v.dz then -1 else if v.dz<u.dz then 1 else 0 from rfl);generalize HN u v=z at *;obtain⟨dz,ay,iV,len,sec⟩:=u;obtain⟨ag,aa,ae,ab,ad⟩:=v;obtain⟨c0,d0⟩:=az ((yl B1).1) ((yl B2).1);dsimp only at CM HC;rw[<-HC.out]at CM;go_in;go_wp2_with fail;refine CM.mono ?_;rintro e w2⟨rfl,rfl⟩;exact e3
theorem aD.ax{f:α->ah}{w w':af}{v:ah}{l:List α}{F:Nat->Prop}(h:aD f w v l)(T:Touch F w w')(hF:∀b,v.ownBlock=some b->¬F b):aD f w' v l:=by
 rcases h with h|⟨b,off,cap,h1,h2,h3,h4,h5⟩
 ·exact .inl h
 ·exact .inr ⟨b,off,cap,h1,h2,h3,h4,λi hi=>fC (h5 i hi) T (hF b zn)⟩
section
variable {P:bp}
theorem k6{ops:Array Abn}{rest:List Abn}{o:Abn}{a:Act}{w:af}{Q:Exit->Act->af->Prop}(hw:Aaa o (Aa1 ops a.tmps)=true)(t:Aab)(i:Nat)(x:bU)(ho:o.op=.build t #[(i,x)])(v:ah)(hx:a.eval x=v)(C:Array ah)(hb:P.built t [(i,v)]=some C)(h:Aal P ops Q rest (a.put o.dst (.agg C)) w):Aal P ops Q (o::rest) a w:=qw hw λ_ hK=>wp_build t #[(i,x)] ho aQ (hK _ _ (by simpa[hx,hb]using h))
end
theorem vX{w w1 w2:af}{v1 v2:bz}(D1:Dv w1 {h with vp:=vp} v1)(T1:Touch (cM h) w w1)(hv:∀b,vp.ownBlock=some b->h.vp.ownBlock=some b\/w.heap.size<=b)(T:h0 w1 {h with vp:=vp} v2 w2):h0 w h v2 w2:=by
 obtain⟨ao,D2,T2,h2⟩:=T;refine⟨ao,D2,T1.trans T2 (λn hn hlt=>?_),λb hb=>?_⟩
 ·rcases h0.Z1 (w':=w1) hv n hn with h|h
  ·exact h
  ·omega
 ·rcases h2 b hb with h|h
  ·simp_all
  ·exact .inr (bK T1.size h)
theorem Sa{w w1 w2:af}{v2:bz}(U:Up w w1)(T:h0 w1 h v2 w2):h0 w h v2 w2:=by
 obtain⟨ao,D2,T2,h2⟩:=T;refine⟨ao,D2,(Touch.bP (F:=cM h) U).trans T2 (λn hn _=>hn),λb hb=>?_⟩;rcases h2 b hb with h|h
 ·simp_all
 ·exact .inr (bK U.size h)
theorem kl{w w':af}{v:bz}(hb:aF w g t C)(T:h0 w h v w')(hf:¬cM h g):aF w' g t C:=by obtain⟨_,_,T2,_⟩:=T;exact hb.ax T2 hf
def bz.oM(v:bz)(u:hT):bz:=(v.cP).written ((u.dz%4:Nat):Int) (q6 u)
theorem EK{v:bz}:κ v.cP.bQ<=κ v.bQ:=by
 unfold bz.cP;split
 ·simp
 ·rw[(pE _).1];exact aE _
theorem Hr{v:bz}{i:Int}{s:cS}:κ (v.written i s).bQ<=κ v.bQ+1:=by
 have h1:=(pE v.bb).1;unfold bz.written bz.put;split
 ·split
  ·simp only[Aaf,Aaj,Aa4];rw[h1];exact aE _
  ·rw[h1];exact hU _
 ·exact hU _
theorem J5(w:af)(h:iM)(v:bz)(D:Dv w h v)(u:hT)(aL:u.wf)(hr:κ v.bQ<=100000)(aB:eT u=true)(fe:v.hC=true)(hb:v.cP.hasB ((u.dz%4:Nat):Int)=true)(hp:v.cP.hC=true)(hq:(v.oM u).hC=true):Aae Aag 153 #[pz h.d,.agg (uC u)] w λe w'=>e=.returned (i6 (v.oM u).qc)/\h0 w h (v.oM u).cP w':=by
 obtain⟨aI,aK,HB,HP,HQ,HV⟩:=ix (show v.qc=0 by unfold bz.qc;rw[fe];rfl) (show v.cP.pN ((u.dz%4:Nat):Int)=0 by unfold bz.pN;rw[hb,hp];rfl) hb hp hq fe;clear fe hb hp hq;obtain⟨B1,U1,DH,HR,ar,C1,aJ,ax,ab,ag,aD,ay⟩:=aaH (aF.new w 122 (uC u)) (ai w (.cells (uC u) 122)) D hr (λW=>Jj W u) (show v.oM u=(v.cP).written ((u.dz%4:Nat):Int) (q6 u)from rfl) (show u.dz%4<4 from ae) (show WG u=if eT u=true then 0 else 61 from rfl) (show ¬cM h w.heap.size from λhf=>by have:=D.oU _ hf;omega) (dx (q6 u).val) (show(aC aM).size=(aC (q6 u).val).size by rw[bX,bX,(q6 u).property];rfl) (wx (q6 u));clear hr;generalize u.dz%4=tx at *;go_in;go_wp2_with(refine arm ?_);refine((λW=>Ct W u aL) _).mono ?_;rintro e w2⟨rfl,U2⟩;have UX:=ai w2 (.cells (aC (q6 u).val) 60);obtain⟨BV,U3⟩:=aw (aF.new w2 60 (aC (q6 u).val)) (U1.trans (U2.trans UX));obtain⟨D3,ak⟩:=aw (DH.up U3) (show ¬cM h w2.heap.size from λhf=>by have:=DH.oU _ hf;have:=(U1.trans U2).size;omega);generalize q6 u=V at *;rw[aB]at ax;have aj:=ax.out;rw[bI rfl]at aj;rw[aj];obtain⟨au,aO⟩:=aw (show w.heap.size<(w2.alloc (.cells (aC V.val) 60)).heap.size by rw[aN];have:=(by have:=(U1.trans U2).size;have h2:=U2.size;rw[aN]at h2;omega);omega) (show w2.heap.size<(w2.alloc (.cells (aC V.val) 60)).heap.size by rw[aN];omega);clear aB aj;have FL:=an (Ax _ h v D3 (by have:=HR.out;omega) HV);go_wp2_with(first
  | refine arm ?_
  | ((with_reducible refine cx 60 (.tmp 5) (.tmp 12) ?_);refine fK w2 rfl 60 (.tmp 5) (.tmp 12) rfl (aC V.val) 60 (aC aM) rfl rfl rfl ay aD ag ?_))
 refine FL.mono ?_;rintro e w4⟨rfl,T4⟩;obtain⟨B4,aG,aQ⟩:=aV (kl (B1.up (U2.trans UX)) T4 ab) (kl BV T4 ak) T4;rw[aI.out];obtain⟨vp,D4,T4,ao⟩:=aQ.out;have aE:=an ao;clear ao;obtain⟨h4,aa⟩:∃x:iM,x={h with vp:=vp}:=⟨_,rfl⟩;have H4:=an aa;rw[<-aa]at D4;have az:h4.d=h.d:=by rw[aa]
 have ab:=an (show ¬cM h4 w.heap.size from λhf=>by
  rw[aa]at hf;rcases h0.Z1 (w':=w4) aE _ hf with hf|hf
  ·exact ab hf
  ·have:=au.out;omega)
 have ak:=an (show ¬cM h4 w2.heap.size from λhf=>by
  rw[aa]at hf;rcases h0.Z1 (w':=w4) aE _ hf with hf|hf
  ·exact ak hf
  ·have:=aO.out;omega)
 have aP:=ar.out;have PE:=an (show κ v.cP.bQ<=100000 from bK EK HR);have WR:=an (show ∀W,Dv W h4 v.cP->Aae Aag 217 #[pz h.d,i6 (tx:Int),.agg (aC V.val)] W λe w'=>e=.returned (i6 (v.cP.pN (tx:Int)))/\h0 W h4 (v.cP.written (tx:Int) V) w' from λW DW=>by have:=AA W h4 v.cP DW (tx:Int) (by have:=aJ.out;omega) V (by have:=PE.out;omega) HB HP;rw[az]at this;exact this)
 clear aa az aP;go_wp2;refine e7 (S:=λW=>aF W w.heap.size 122 (uC u)/\aF W w2.heap.size 60 (aC V.val)) al ?_;change Acp _ _ _ _ _ 6 _ _ w4.drew;have UD:Up w4 w4.drew:=(Up.refl w4).drew;obtain⟨B5,ad⟩:=aw (B4.up UD) (aG.up UD);generalize w4.drew=w5 at *;refine tk 0 (pz h.d) rfl ya ⟨B5,ad⟩ ?_;refine tk 1 _ rfl (W7 (λW hS=>hS.1.range)) ⟨B5,ad⟩ ?_;refine tk 3 _ rfl (W7 (λW hS=>hS.2.range) (hi:=ay)) ⟨B5,ad⟩ ?_;refine re 2 al rfl rfl ?_;intro K hK;go_simp;refine(ar w5).mono ?_;rintro e w6⟨rfl,U6⟩;refine hK _ _ ⟨B5.up U6,ad.up U6⟩ ?_;clear hK K;obtain⟨B6,av⟩:=aw (B5.up U6) (ad.up U6);have D6:=(D4.up UD).up U6;refine re 4 al rfl rfl ?_;intro K hK;go_simp;refine(WR w6 D6).mono ?_;rintro e w7⟨rfl,T7⟩;refine hK _ _ ⟨kl B6 T7 ab,kl av T7 ak⟩ ?_;clear hK K;refine tk 5 (i6 (v.cP.pN (tx:Int))) rfl ya ⟨kl B6 T7 ab,kl av T7 ak⟩ ?_;refine⟨al,?_⟩;have aH:Dv w6 {h with vp:=vp} v.cP:=by rw[<-H4.out];exact D6
 have aR:h0 w6 {h with vp:=vp} (v.cP.written (tx:Int) V) w7:=by rw[<-H4.out];exact T7
 have T8:=an (vX aH ((T4.trans (Touch.bP (F:=λ_=>False) UD) (λn hn _=>hn.elim)).trans (Touch.bP (F:=λ_=>False) U6) (λn hn _=>hn.elim)) aE aR);rw[<-C1.out]at T8;clear WR;(try simp only[Exit.then]);rw[aK.out];obtain⟨bj,D8,T9,aq⟩:=T8.out;have FL:=Ax w7 _ _ D8 (by rw[C1.out];exact bK Hr (by have:=PE.out;omega)) HQ;go_wp2_with fail;refine FL.mono ?_;rintro e w9⟨rfl,bB⟩;go_wp2;go_ret;exact⟨rfl,Sa U3 (vX D8 T9 aq bB)⟩
def DA(w:af)(h:iM)(C:List cS)(m:Nat)(fl:Bool):Prop:=∃v,Dv w h v/\v.cv=C/\v.dead=false/\v.left=-1/\(κ v.bQ)<=m/\dj v.aS v.bQ=v.cv/\(fl=true->v.bQ=[])
def DT(w:af)(h:iM)(C:List cS)(m:Nat)(fl:Bool)(w':af):Prop:=∃vp,DA w' {h with vp:=vp} C m fl/\Touch (cM h) w w'/\∀b,vp.ownBlock=some b->h.vp.ownBlock=some b\/w.heap.size<=b
theorem DA.up{w w':af}{C:List cS}{fl:Bool}(D:DA w h C m fl)(u:Up w w'):DA w' h C m fl:=by obtain⟨v,h1,h2⟩:=D;exact⟨v,h1.up u,h2⟩
theorem DA.mono{C:List cS}{m m':Nat}{fl:Bool}(D:DA w h C m fl)(hm:m<=m'):DA w h C m' fl:=by obtain⟨v,h1,h2,h3,h4,h5,h6⟩:=D;exact⟨v,h1,h2,h3,h4,ae,h6⟩
theorem DA.ax{w w':af}{C:List cS}{fl:Bool}(D:DA w h C m fl){F:Nat->Prop}(T:Touch F w w')(hf:∀b,cM h b->¬F b):DA w' h C m fl:=by obtain⟨v,h1,h2⟩:=D;exact⟨v,h1.ax T hf,h2⟩
theorem DA.lt{C:List cS}{fl:Bool}(D:DA w h C m fl):∀b,cM h b->b<w.heap.size:=by obtain⟨v,h1,_⟩:=D;exact h1.oU
theorem DA.len{C:List cS}{fl:Bool}(D:DA w h C m fl):κ C<=1024:=by obtain⟨v,h1,h2,_⟩:=D;rw[<-h2,h1.len];exact h1.max
theorem Dv.jV{v:bz}(D:Dv w h v){A:Array ah}(hb:aF w g t A)(h1:t≠114)(h2:t≠60)(h3:t≠116):¬cM h g:=by
 rintro(rfl|rfl|rfl|e)
 ·have:=hb.symm.trans D.dev;simp at this;exact h1 this.2
 ·have:=hb.symm.trans D.b1;simp at this;exact h2 this.2
 ·have:=hb.symm.trans D.b2;simp at this;exact h2 this.2
 ·exact jm h3 hb D.bQ e
theorem DA.jV{C:List cS}{fl:Bool}(D:DA w h C m fl){A:Array ah}(hb:aF w g t A)(h1:t≠114)(h2:t≠60)(h3:t≠116):¬cM h g:=by obtain⟨v,d,_⟩:=D;exact d.jV hb h1 h2 h3
def DT.same{w w':af}{C:List cS}{fl:Bool}(D:DA w' h C m fl)(T:Touch (cM h) w w'):DT w h C m fl w':=⟨h.vp,D,T,λ_ hb=>.inl hb⟩
theorem DT.up{w w1 w2:af}{C:List cS}{fl:Bool}(D:DT w h C m fl w1)(u:Up w1 w2):DT w h C m fl w2:=Ui
theorem kZ(w:af)(h:iM)(C:List cS)(m:Nat)(fl:Bool)(D:DA w h C m fl):Aae Aag 55 #[.pointer (some ⟨h.d,0,none⟩)] w λe w'=>e=.returned (.int .i64 (κ C:Int))/\w=w':=by obtain⟨v,h1,h2,_⟩:=D;have:=Tr w h v h1;rw[<-h1.len,h2]at this;exact this
theorem uh(w:af)(h:iM)(C:List cS)(m:Nat)(fl:Bool)(D:DA w h C m fl):Aae Aag 53 #[.pointer (some ⟨h.d,0,none⟩)] w λe w'=>e=.returned (.bool false)/\w=w':=by obtain⟨v,h1,h2,h3,_⟩:=D;have:=Qc w h v h1;simp_all
theorem Tt(w:af)(h:iM)(C:List cS)(m:Nat)(fl:Bool)(D:DA w h C m fl)(i:Nat)(hi:i<κ C):Aae Aag 166 #[.pointer (some ⟨h.d,0,none⟩),.int .i64 (i:Int)] w λe w'=> e=.returned (.tuple #[.agg (aC (C[i]).val),.int .i64 0])/\DA w' h C m fl/\Touch (cM h) w w':=by have hl:=D.len;obtain⟨v,h1,h2,h3,h4,h5,h6,h7⟩:=D;have hlen:=h1.len;have hb:v.hasB (i:Int)=true:=(ob v i).2 aa;refine(Dp w h v h1 (i:Int) ae).mono ?_;rintro e w'⟨rfl,D',T⟩;refine⟨?_,⟨v.bb,D',h2,h3,h4,h5,h6,h7⟩,T⟩;grind [bz.j3,bz.mw,bz.nowAt]
theorem jZ{v:bz}(h3:v.dead=false)(h4:v.left=-1):v.hC=true/\v.eO=v:=by obtain⟨a,b,c,d,l,k⟩:=v;simp only at h3 h4;subst h3;subst h4;refine⟨rfl,?_⟩;rfl
theorem Qh(w:af)(h:iM)(C:List cS)(m:Nat)(fl:Bool)(D:DA w h C m fl)(i:Nat)(hi:i<κ C)(s:cS)(hm:m<=900000):Aae Aag 217 #[.pointer (some ⟨h.d,0,none⟩),.int .i64 (i:Int),.agg (aC s.val)] w λe w'=>e=.returned (.int .i64 0)/\DT w h (C.set i s) (m+1) false w':=by
 have hl:=D.len;obtain⟨v,h1,h2,h3,h4,h5,h6,h7⟩:=D;have hlen:=h1.len;have hb:v.hasB (i:Int)=true:=(ob v i).2 aa;obtain⟨hp,_⟩:=jZ h3 h4;have hs:v.bb.eO=v.bb:=(jZ (v:=v.bb) h3 h4).2;refine(AA w h v h1 (i:Int) ae s ae hb hp).mono ?_;rintro e w'⟨rfl,vp,D',T,O⟩;have ew:v.written (i:Int) s=v.bb.put i s:=by grind [bz.written]
 have ee:v.pN (i:Int)=0:=by grind [bz.pN]
 rw[ee];refine⟨rfl,vp,⟨_,D',?_⟩,T,O⟩;rw[ew];refine⟨by show v.cv.set i s=_;rw[h2],h3,h4,by show(v.bQ++_).length<=_;simp;omega,?_,λh=>aa⟩;show dj v.aS (v.bQ++[⟨i,s⟩])=v.cv.set i s;grind [dj]
theorem AJ{v:bz}(h3:v.dead=false)(h4:v.left=-1):v.cP={v.bb with aS:=dj v.aS v.bQ,bQ:=[]}/\v.qc=0:=by unfold bz.cP bz.qc;rw[(jZ h3 h4).1,(jZ (v:=v.bb) h3 h4).2];simp
theorem Kf(w:af)(h:iM)(C:List cS)(m:Nat)(fl:Bool)(D:DA w h C m fl)(u:hT)(aL:u.wf)(hu:eT u=true)(hl:4<=κ C)(hm:m<=90000):Aae Aag 153 #[.pointer (some ⟨h.d,0,none⟩),.agg (uC u)] w λe w'=>e=.returned (.int .i64 0)/\DT w h (C.set (u.dz%4) (q6 u)) 0 true w':=by
 obtain⟨v,h1,h2,h3,h4,h5,h6,h7⟩:=D;obtain⟨f1,f2⟩:=AJ h3 h4;have g3:v.cP.dead=false:=by rw[f1];exact h3
 have g4:v.cP.left=-1:=by rw[f1];exact h4
 have gl:κ v.cP.aS=κ C:=aa
 have hb:v.cP.hasB ((u.dz%4:Nat):Int)=true:=(ob _ _).2 ae;have aN:v.oM u=v.cP.bb.put (u.dz%4) (q6 u):=by unfold bz.oM bz.written;rw[hb,(jZ g3 g4).1,(jZ (v:=v.cP.bb) g3 g4).2];rfl
 obtain⟨k1,k2⟩:=AJ (v:=v.oM u) (by rw[aN];exact g3) (by rw[aN];exact g4);refine(J5 w h v h1 u aL ae hu (jZ h3 h4).1 hb (jZ g3 g4).1 (by rw[aN];exact(jZ (v:=v.cP.bb.put (u.dz%4) (q6 u)) g3 g4).1)).mono ?_;rintro e w'⟨rfl,vp,D',T,O⟩;rw[k2];refine⟨rfl,vp,⟨_,D',?_⟩,T,O⟩;rw[k1,aN];have ai:v.cP.cv=C:=by rw[f1];exact h2
 have aG:v.cP.aS=C:=aa
 have aj:v.cP.bQ=[]:=by rw[f1]
 refine⟨by show v.cP.cv.set _ _=_;rw[ai],g3,g4,aq,?_,λ_=>rfl⟩;show dj (dj v.cP.aS (v.cP.bQ++[⟨u.dz%4,q6 u⟩])) []=v.cP.cv.set (u.dz%4) (q6 u);rw[aj,aG,ai];rfl
theorem Qb(w:af)(h:iM)(C:List cS)(m:Nat)(D:DA w h C m true):Aae Aag 19 #[.pointer (some ⟨h.d,0,none⟩),.slice none 0 0] w λe w'=>e=.returned (.tuple #[])/\DT w h C 0 true w':=by
 obtain⟨v,h1,h2,h3,h4,h5,h6,h7⟩:=D;have hp:=h7 rfl;refine(Kg w h v h1 aa (.slice none 0 0) [] (λw' _=>aD.nil _ _)).mono ?_;rintro e w'⟨rfl,vp,D',T,O⟩;refine⟨rfl,vp,⟨_,D',?_⟩,T,O⟩;rw[hp]at h6;have hs:v.sU []=C:=by unfold bz.sU;rw[hp,<-h2,<-h6];rfl
 grind [bz.crashed,dj]
theorem XB(w:af)(n:Nat)(hn:n<=1024):Aae Aag 24 #[.int .i64 (n:Int)] w λe w'=>∃h,e=.returned (.pointer (some ⟨h.d,0,none⟩))/\DA w' h (Aad n ey) 0 true/\Up w w'/\∀b,cM h b->w.heap.size<=b:=by refine(Ts w n hn).mono ?_;rintro e w'⟨h,rfl,D,U,O⟩;exact⟨h,rfl,⟨_,D,rfl,rfl,rfl,by simp[QY],rfl,λ_=>rfl⟩,U,O⟩
structure aR where
 pb:Nat
 mb:Nat
 h:iM
structure bq where
 C:List cS
 m:Nat
 fl:Bool
 s:Nat->Nat
 st:Nat
 ba:Nat
def abt(H:aR)(P:bq):Array ah:=#[.pointer (some ⟨H.h.d,0,none⟩),.pointer (some ⟨H.mb,0,none⟩),.int .u64 (P.st:Int),.int .u64 (P.ba:Int)]
structure PA(w:af)(H:aR)(P:bq):Prop where
 fg:aF w H.pb 160 (abt H P)
 map:b' w H.mb P.s
 dev:DA w H.h P.C P.m P.fl
def PF(H:aR)(b:Nat):Prop:=b=H.pb\/b=H.mb\/cM H.h b
def aR.at(H:aR)(vp:ah):aR:={H with h:={H.h with vp:=vp}}
def PT(w:af)(H:aR)(P:bq)(w':af):Prop:=∃vp,PA w' (H.at vp) P/\Touch (PF H) w w'/\∀b,vp.ownBlock=some b->H.h.vp.ownBlock=some b\/w.heap.size<=b
def vA(t:Aab):Bool:=decide (t=160) || decide (t=165) || decide (t=114) || decide (t=60) || decide (t=116)
section
variable {w w':af} {H:aR} {P:bq}
def PA.up(A:PA w H P)(u:Up w w'):PA w' H P:=⟨A.fg.up u,A.map.up u,A.dev.up u⟩
theorem PA.ax(A:PA w H P){F:Nat->Prop}(T:Touch F w w')(hf:∀b,PF H b->¬F b):PA w' H P:=⟨A.fg.ax T (hf _ (.inl rfl)),a7.ax A.map T (hf _ (.inr (.inl rfl))),A.dev.ax T (λb hb=>hf _ (.inr (.inr hb)))⟩
theorem PA.lt(A:PA w H P):∀b,PF H b->b<w.heap.size:=by
 rintro b(rfl|rfl|hb)
 ·exact A.fg.lt
 ·exact a7.lt A.map
 ·exact A.dev.lt b hb
theorem sR{w:af}{g b n:Nat}{t t':Aab}{A:Array ah}{f:Nat->ah}(hb:aF w g t A)(hc:a7 w b n t' f)(hne:t≠t'):g≠b:=λe=>by subst e;obtain⟨C,h1,_⟩:=hc;have:=hb.symm.trans h1;simp at this;exact hne this.2
theorem PA.V6(A:PA w H P):H.pb≠H.mb:=sR A.fg A.map av
theorem PA.wX(A:PA w H P):¬cM H.h H.pb:=A.dev.jV A.fg av av av
theorem PA.wR(A:PA w H P):¬cM H.h H.mb:=by obtain⟨C,h1,_⟩:=A.map;exact A.dev.jV h1 av av av
theorem PA.cc(A:PA w H P){g:Nat}{t:Aab}{C:Array ah}(hb:aF w g t C)(h:vA t=false):¬PF H g:=by
 simp only[vA,Bool.or_eq_false_iff,decide_eq_false_iff_not]at h;obtain⟨⟨⟨⟨h0,h4⟩,h1⟩,h2⟩,h3⟩:=h;rintro(rfl|rfl|h)
 ·have:=hb.symm.trans A.fg;simp at this;exact h0 this.2
 ·obtain⟨C',aa,_⟩:=A.map;have:=hb.symm.trans aa;simp at this;exact h4 this.2
 ·exact A.dev.jV hb h1 h2 h3 h
theorem PA.cells(A:PA w H P):w.cell? (ad H.pb 0)=some (pz H.h.d)/\w.cell? (ad H.pb 1)=some (pz H.mb)/\w.cell? (ad H.pb 2)=some (u6 (P.st:Int))/\w.cell? (ad H.pb 3)=some (u6 (P.ba:Int)):=by refine⟨?_,?_,?_,?_⟩<;>(rw[A.fg.cell];rfl)
def PA.G2(A:PA w H P){s':Nat->Nat}(hs:b' w' H.mb s')(T:Touch (·=H.mb) w w'):PA w' H {P with s:=s'}:=⟨A.fg.ax T A.V6,hs,A.dev.ax T (λb hb e=>A.wR (e ▸ hb))⟩
theorem PA.Wh(A:PA w H P){C':List cS}{m':Nat}{aa:Bool}(D:DT w H.h C' m' aa w'):PT w H {P with C:=C',m:=m',fl:=aa} w':=by obtain⟨vp,d,t,o⟩:=D;exact⟨vp,⟨A.fg.ax t A.wX,a7.ax A.map t A.wR,d⟩,t.mono (λn h=>.inr (.inr h)),o⟩
def PT.same(A:PA w' H P)(T:Touch (PF H) w w'):PT w H P w':=⟨H.h.vp,A,T,λ_ h=>.inl h⟩
theorem ur{h:iM}{vp:ah}{b:Nat}(hb:cM {h with vp:=vp} b):cM h b\/vp.ownBlock=some b:=by
 rcases hb with hb|hb|hb|hb
 ·exact .inl (.inl hb)
 ·exact .inl (.inr (.inl hb))
 ·exact .inl (.inr (.inr (.inl hb)))
 ·simp_all
theorem V8{H:aR}{vp:ah}{b:Nat}(hb:PF (H.at vp) b):PF H b\/vp.ownBlock=some b:=by
 rcases hb with hb|hb|hb
 ·exact .inl (.inl hb)
 ·exact .inl (.inr (.inl hb))
 ·rcases ur hb with h|h
  ·exact .inl (.inr (.inr h))
  ·simp_all
theorem PT.up{w1 w2:af}(D:PT w H P w1)(u:Up w1 w2):PT w H P w2:=Ui
theorem PT.pre{w0:af}(u:Up w0 w)(D:PT w H P w'):PT w0 H P w':=by
 obtain⟨vp,d,t,o⟩:=D;refine⟨vp,d,(Touch.bP (F:=PF H) u).trans t (λn h _=>h),λb hb=>?_⟩;rcases o b hb with h|h
 ·simp_all
 ·exact .inr (bK u.size h)
theorem PT.then{w1 w2:af}{P2:bq}{vp:ah}(T:Touch (PF H) w w1)(O:∀b,vp.ownBlock=some b->H.h.vp.ownBlock=some b\/w.heap.size<=b)(D2:PT w1 (H.at vp) P2 w2):PT w H P2 w2:=by
 obtain⟨ao,d2,t2,o2⟩:=D2;refine⟨ao,d2,T.trans t2 (λn hn hlt=>?_),λb hb=>?_⟩
 ·rcases V8 hn with h|h
  ·exact h
  ·rcases O n h with h|h
   ·exact .inr (.inr (.inr (.inr (.inr h))))
   ·omega
 ·rcases o2 b hb with h|h
  ·exact O b h
  ·exact .inr (bK T.size h)
theorem PT.grow{w1 w2:af}(D:PT w H P w1){g:Nat}{t:Aab}{C:Array ah}(hb:aF w1 g t C)(h:vA t=false)(hg:w1.grownBy w2 (some g))(hn:w.heap.size<=g):PT w H P w2:=by obtain⟨vp,d,tt,o⟩:=D;have ab:=d.cc hb h;exact⟨vp,d.ax (Touch.bg (F:=(·=g)) hg (λk hk=>aa)) (λb hb e=>ab (e ▸ hb)),tt.hp hg (λk hk=>aa),o⟩
theorem qJ{vp:ah}(A:PA w H P)(O:∀b,vp.ownBlock=some b->H.h.vp.ownBlock=some b\/w.heap.size<=b){b:Nat}(hb:b<w.heap.size)(hn:¬PF H b):¬PF (H.at vp) b:=λh=>by
 rcases V8 h with h|h
 ·exact hn h
 ·rcases O b h with h|h
  ·exact hn (.inr (.inr (.inr (.inr (.inr h)))))
  ·omega
end
theorem lj(w:af)(H:aR)(P:bq)(A:PA w H P):Aae Aag 86 #[pz H.pb] w λe w'=>e=.returned (pz H.h.d)/\w=w':=by obtain⟨c0,c1,c2,c3⟩:=A.cells;clear c1 c2 c3;go_in;exact e3
theorem mo(w:af)(H:aR)(P:bq)(A:PA w H P):Aae Aag 34 #[pz H.pb] w λe w'=>e=.returned (pz H.mb)/\w=w':=by obtain⟨c0,c1,c2,c3⟩:=A.cells;clear c0 c2 c3;go_in;exact e3
theorem pr(w:af)(H:aR)(P:bq)(A:PA w H P):Aae Aag 88 #[pz H.pb] w λe w'=>e=.returned (u6 (P.st:Int))/\w=w':=by obtain⟨c0,c1,c2,c3⟩:=A.cells;clear c0 c1 c3;go_in;exact e3
theorem Rh(w:af)(H:aR)(P:bq)(A:PA w H P):Aae Aag 89 #[pz H.pb] w λe w'=>e=.returned (u6 (P.ba:Int))/\w=w':=by obtain⟨c0,c1,c2,c3⟩:=A.cells;clear c0 c1 c2;go_in;exact e3
theorem Rk(w:af)(H:aR)(P:bq)(A:PA w H P)(aG:P.st<1000000000000):Aae Aag 127 #[pz H.pb] w λe w'=> e=rt #[]/\PA w' H {P with st:=P.st+1}/\Touch (PF H) w w':=by obtain⟨c0,c1,c2,c3⟩:=A.cells;have HA:=an A;have f2:=A.fg.free 2;generalize hs:P.st=st at *;have HS:=an hs;clear c0 c1 c3 hs;go_in;go_wp2;go_end0;have G:=bZ HA.fg 2 (u6 ((st:Int)+1));have T:=Touch.bg (F:=(·=H.pb)) G (λk hk=>aQ);refine⟨rfl,⟨?_,a7.ax HA.map T (λe=>HA.V6 e.symm),HA.dev.ax T (λb hb e=>HA.wX (e ▸ hb))⟩,T.mono (λn h=>.inl h)⟩;have:=HA.fg.setCell 2 (u6 ((st:Int)+1));exact this
theorem vC(w:af)(h:iM)(mb:Nat)(C:List cS)(m:Nat)(fl:Bool)(s:Nat->Nat)(D:DA w h C m fl)(S:b' w mb s)(st ba:Nat):Aae Aag 56 #[pz h.d,pz mb,u6 (st:Int),u6 (ba:Int)] w λe w'=>e=.returned (pz w.heap.size)/\PA w' ⟨w.heap.size,mb,h⟩ ⟨C,m,fl,s,st,ba⟩/\Up w w':=by go_in;go_wp2;go_ret;exact⟨rfl,⟨aF.new w 160 _,S.up (ai _ _),D.up (ai _ _)⟩,ai _ _⟩
theorem IQ(w:af)(H:aR)(P:bq)(A:PA w H P)(aG:P.st<1000000000000):Aae Aag 154 #[pz H.pb] w λe w'=> e=rt #[]/\PA w' H {P with s:=iR P.s 1024,ba:=P.st,st:=P.st+1}/\Touch (PF H) w w':=by obtain⟨c0,c1,c2,c3⟩:=A.cells;have HA:=an A;generalize hs:P.st=st at *;have HS:=an hs;clear hs;go_in;go_wp2_with fail;refine(Jd w H.mb P.s A.map).mono ?_;rintro e w1⟨rfl,S1,T1⟩;have A1:=an (HA.G2 S1 T1);clear c0 c1 c2 c3;obtain⟨f2,f3⟩:=az (A1.fg.free 2) (A1.fg.free 3);obtain⟨c0,c1,c2,c3⟩:=A1.cells;simp only[HS.out]at c2 c3;clear c0 c1;go_wp2;go_end0;have B0:=A1.fg;have B1:=B0.setCell 3 (u6 (st:Int));have B2:=B1.setCell 2 (u6 ((st:Int)+1));have T2:Touch (·=H.pb) w1 ((w1.setCell ⟨H.pb,3,none⟩ (u6 (st:Int))).setCell ⟨H.pb,2,none⟩ (u6 ((st:Int)+1))):=(Touch.bg (F:=(·=H.pb)) (bZ B0 3 _) (λk hk=>aQ)).trans (Touch.bg (F:=(·=H.pb)) (bZ B1 2 _) (λk hk=>aQ)) (λn h _=>h);exact⟨rfl,⟨B2,a7.ax A1.map T2 (λe=>A1.V6 e.symm),A1.dev.ax T2 (λb hb e=>A1.wX (e ▸ hb))⟩,(T1.mono (λn h=>.inr (.inl h))).trans (T2.mono (F':=PF H) (λn h=>.inl h)) (λn h _=>h)⟩
theorem fL:∀W:af,(Acj 87).run Aag W=.ok (.agg (be hole)) W:=by simp[be,hole]
theorem Af:prog.built 87 []=some (be hole):=al
theorem JX(p:au):prog.built 87 [(0,i6 p.loc),(1,u6 (p.aU:Int)),(2,.int .u32 (p.sum:Int))]=some (be p):=al
theorem ia(p:au):(prog.info? 87).map (·.size)=some (be p).size:=al
section
variable {P:bp}
theorem Eo{ops:Array Abn}{rest:List Abn}{op:Abn}{a:Act}{w:af}{Q:Act->Prop}(hw:Aaa op (Aa1 ops a.tmps)=true)(t:Aab)(i0 i1 i2:Nat)(x0 x1 x2:bU)(ho:op.op=.build t #[(i0,x0),(i1,x1),(i2,x2)])(v0 v1 v2:ah)(C:Array ah)(hb:P.built t [(i0,v0),(i1,v1),(i2,v2)]=some C)(h0:a.eval x0=v0)(h1:a.eval x1=v1)(h2:a.eval x2=v2)(h:Ade P ops w Q rest (a.put op.dst (.agg C))):Ade P ops w Q (op::rest) a:=C3 hw t #[(i0,x0),(i1,x1),(i2,x2)] ho C aa h
end
def Jo{f:FuncId}{args:Array ah}{v:ah}(h:Aae P f args w λe w'=>e=.returned v/\w=w'):Aae P f args w λe w'=>e=.returned v/\w'=w:=h.mono λ_ _ ⟨a,b⟩=>⟨a,b.symm⟩
def eS(b:List aj)(h:κ b<=128):cS:=⟨e' b,hz h⟩
def dQ(s:cS):Nat:=gA 0 s.val
theorem BZ(w:af)(H:aR)(P:bq)(A:PA w H P)(i:Nat)(hi:i<κ P.C)(vb:ah)(b:List aj)(hb:a8 w vb b)(aa:κ b<=128)(hm:P.m<=900000):Aae Aag 158 #[pz H.pb,i6 (i:Int),vb] w λe w'=>e=rt #[.agg (be ⟨i,P.st,dQ (eS b aa)⟩),i6 0]/\PT w H {P with C:=P.C.set i (eS b aa),m:=P.m+1,fl:=false} w':=by
 obtain⟨HA,HB,SL⟩:=aV A hb mE;obtain⟨U1,U2,b2⟩:=cZ (ai w (.cells (be hole) 87)) (ai (w.alloc (.cells (be hole) 87)) (.cells (aC aM) 60)) (aF.new (w.alloc (.cells (be hole) 87)) 60 (aC aM));rw[aN]at b2;go_in;go_wp2_with(first
  | refine arm ?_
  | (refine hK rfl (.tmp 10) (.tmp 11) 30 30 rfl 5 Aa0 aA (w.heap.size+1) 0 128 128 rfl vb b rfl (hb.up (U1.trans U2)) aa 60 [] rfl b2 ab ?_))
 intro w3 aP _ aD;have G3:=aD;obtain⟨U3,S3⟩:=aw ((U1.trans U2).grown aD (λk hk=>aQ)) aP;have A3:=an (HA.up U3);obtain⟨c0,c1,c2,c3⟩:=A3.cells;clear c1 c3;refine Ot ?_;intro NS NR;go_wp2;refine Ou ?_;change Ade _ _ w3.drew (λa'=>Aal _ _ _ _ a' w3.drew) _ _;repeat(first
  | (refine iJ rfl 60 (.tmp 8) rfl (w.heap.size+1) rfl 60 _ (S3.up (Up.drew (Up.refl _))) _ Acs rfl (dJ (eS b aa)) ?_)
  | still_step)
 refine hB ?_;obtain⟨A4,S4,R4,U4⟩:=bW (A3.up (Up.drew (Up.refl _))) (S3.up (Up.drew (Up.refl _))) ((((aF.new w 87 (be hole)).up U2).grown aD (λe=>aQ)).up (Up.drew (Up.refl _))) (U3.trans (Up.drew (Up.refl _)));clear c0 c2;generalize w3.drew=w4 at *;go_wp2_with fail;refine((λW (D:DA W H.h P.C P.m P.fl)=>Qh W H.h P.C P.m P.fl D i hi (eS b aa) hm) _ A4.dev).mono ?_;rintro e w5⟨rfl,T5⟩;obtain⟨vp,A5,TT,O5⟩:=A4.Wh T5;obtain⟨S5,R5,T5⟩:=aV (S4.ax TT (λh=>NS h)) (R4.ax TT (λh=>NR h)) (PT.pre U4 ⟨vp,A5,TT,O5⟩);have c2:w5.cell? (ad H.pb 2)=some (u6 (P.st:Int)):=A5.cells.2.2.1;clear O5;go_wp2;have SB:=iA S5 0 128 128 (by rw[hz aa];omega) ae ae ae;rw[Aaw,dq (by rw[hz aa];omega)]at SB;obtain⟨SO,SU⟩:=aw (Jo (GI _ _ w5.drew (SB.up (Up.drew (Up.refl _))))) (show gA 0 (e' b)=dQ (eS b aa)from rfl);rw[SU.out]at SO;obtain⟨BP,R6,T6⟩:=aV (JX ⟨(i:Int),P.st,dQ (eS b aa)⟩) (R5.up (Up.drew (Up.refl _))) (T5.up (Up.drew (Up.refl _)));generalize dQ (eS b aa)=sm at *;refine On ?_;change Ade _ _ w5.drew (λa'=>Aal _ _ _ _ a' w5.drew) _ _;iterate 6 still_step
 still_call SO;refine Eo rfl 87 0 1 2 (.tmp 24) (.tmp 28) (.tmp 30) rfl _ _ _ _ BP rfl rfl rfl ?_;refine hB ?_;clear c2;generalize w5.drew=w6 at *;go_wp2_with(first|refine arm ?_|refine oJ ?_);intro w7 ag aK;have T7:=an (T6.grow R6 rfl aK (aE _));go_wp2;exact bG (.tuple #[.agg (be ⟨(i:Int),P.st,sm⟩),i6 0]) ag ⟨by rw[<-SU.out];rfl,T7⟩
section
variable {P:bp} {ops:Array Abn} {S:af->Prop} {o o2 o3:Abn} {a:Act} {v:ah}
theorem qa{Q:Exit->Act->af->Prop}{md:Ab0}{fuel:Nat}{aZ:Array Bool}{w:af}(i j:Nat)(hr:Abi md ops aZ=[i,j])(hi:ops[i]?=some o)(hj:ops[j]?=some o2)(hw:Aaa o (Aa1 ops a.tmps)=true)(hw2:Aaa o2 (Aa1 ops a.tmps)=true)(h:∀K:Act->af->Prop,(∀a w,S w->Acp P md ops Q S fuel (aZ.setIfInBounds i true) a w->K a w)->o.wp P a w K Q)(h2:∀K:Act->af->Prop,(∀a w,S w->Acp P md ops Q S fuel (aZ.setIfInBounds j true) a w->K a w)->o2.wp P a w K Q):Acp P md ops Q S (fuel+1) aZ a w:=wpAnyH_all hr aq (λk hk=>by
  simp at hk;rcases hk with rfl|rfl
  ·exact kW hi hw (h _ λ_ _ h1 h2=>⟨h1,h2⟩)
  ·exact kW hj hw2 (h2 _ λ_ _ h1 h2=>⟨h1,h2⟩))
def j8{Q:Exit->Act->af->Prop}{l:List Abn}{w:af}(h:Hid (Aal P ops Q l a w)):Aal P ops Q l a w:=h
end
def fM(C:List cS)(q:au):Option cS:=if q=hole then some ey else if 0<=q.loc then(C[q.loc.toNat]?).bind (λs=>if dQ s=q.sum then some s else none)else none
theorem js(C:List cS):fM C hole=some ey:=aA
theorem PI{C:List cS}{q:au}{s:cS}(h:fM C q=some s)(hq:q≠hole):∃n:Nat,q.loc=n/\∃hn:n<κ C,C[n]=s/\dQ s=q.sum:=by grind [fM]
def D2(q:au)(W:af):(Ach 10000 87 (.agg (be q)) (.agg (be hole))).run Aag W=.ok (decide (q=hole)) W:=zM 9998 q hole W
theorem rV{q:au}(h:aF w g t (be q)):w.cell? (ad g 0)=some (i6 q.loc)/\w.cell? (ad g 1)=some (u6 (q.aU:Int))/\w.cell? (ad g 2)=some (.int .u32 (q.sum:Int)):=by refine⟨?_,?_,?_⟩<;>(rw[h.cell];rfl)
theorem PA.grown{w1 w2:af}{H:aR}{P:bq}(A:PA w1 H P)(hg:w1.grownBy w2 (some g))(hn:¬PF H g):PA w2 H P:=A.ax (Touch.bg (F:=(·=g)) hg (λk hk=>aa)) (λb hb e=>hn (e ▸ hb))
def PG(w:af)(H:aR)(P:bq)(w':af):Prop:=PA w' H P/\Touch (PF H) w w'
def PG.up{w w1 w2:af}{H:aR}{P:bq}(G:PG w H P w1)(u:Up w1 w2):PG w H P w2:=⟨G.1.up u,G.2.iZ u⟩
def PG.of{w w1:af}{H:aR}{P:bq}(A:PA w H P)(u:Up w w1):PG w H P w1:=⟨A.up u,Touch.bP u⟩
def PG.trans{w w1 w2:af}{H:aR}{P:bq}(G:PG w H P w1)(G2:PG w1 H P w2):PG w H P w2:=⟨G2.1,G.2.trans G2.2 (λn h _=>h)⟩
def PG.dev{w w1 w2:af}{H:aR}{P:bq}(G:PG w H P w1)(D:DA w2 H.h P.C P.m P.fl)(T:Touch (cM H.h) w1 w2):PG w H P w2:=⟨⟨G.1.fg.ax T G.1.wX,a7.ax G.1.map T G.1.wR,D⟩,G.2.trans (T.mono (F':=PF H) (λn h=>.inr (.inr h))) (λn h _=>h)⟩
theorem PG.grown{w w1 w2:af}{H:aR}{P:bq}(G:PG w H P w1)(hg:w1.grownBy w2 (some g))(hn:¬PF H g)(h0:w.heap.size<=g):PG w H P w2:=⟨G.1.grown hg hn,G.2.hp hg (λk hk=>aa)⟩
theorem vx(w:af)(H:aR)(P:bq)(A:PA w H P)(q:au)(s:cS)(hq:fM P.C q=some s):Aae Aag 109 #[pz H.pb,.agg (be q)] w λe w'=>e=rt #[.agg (aC s.val),i6 0]/\PG w H P w':=by
 obtain⟨EQ,U1,U2⟩:=cZ (D2 q) (ai w (.cells (be q) 87)) (ai (w.alloc (.cells (be q) 87)) (.cells (aC aM) 60));have aa:=an ((aF.new w 87 (be q)).up U2);have b2:=aF.new (w.alloc (.cells (be q) 87)) 60 (aC aM);rw[aN]at b2;obtain⟨B2,UU,HA⟩:=aV b2 (U1.trans U2) A;refine Ot ?_;intro NS NR;by_cases hh:q=hole
 ·rw[h8 hh]at EQ;have HS:=an (show s=ey by subst hh;rw[js]at hq;exact(dE hq).symm);clear hh hq;go_in;go_wp2_with(first|refine arm ?_|refine oJ ?_);intro w7 ag aK;obtain⟨R7,G7⟩:=aw ag ((PG.of HA UU).grown aK NS ae);go_wp2;exact bG (.tuple #[.agg (aC aM),i6 0]) R7 ⟨by rw[HS.out];rfl,G7⟩
 ·rw[jj hh]at EQ;obtain⟨n,hn,hlt,hs,aL⟩:=PI hq hh;have hm:=HA.dev.len;have DR:=an (λW (D:DA W H.h P.C P.m P.fl)=>Tt W H.h P.C P.m P.fl D n hlt);rw[hs]at DR;obtain⟨d0,d1,d2⟩:=rV aa;obtain⟨c0,c1,c2,c3⟩:=(A.up UU).cells;rw[hn]at d0;obtain⟨SM,IS,OS,ND⟩:=bW aL (dJ s) (dx s.val) hn;clear hh hq hn hs aL c1 c2 c3 d1 d2;go_in;go_wp2_with(refine arm ?_);refine e7 (S:=λW=>W.cell? (ad H.pb 0)=some (pz H.h.d)/\W.cell? (ad w.heap.size 0)=some (i6 (n:Int))) al ?_;change Acp _ _ _ _ _ 13 _ _ (((w.alloc (.cells (be q) 87)).alloc (.cells (aC aM) 60)).drew);obtain⟨G3,B3,C3⟩:=aV (PG.of HA (UU.trans (Up.drew (Up.refl _)))) (aa.up (Up.drew (Up.refl _))) (B2.up (Up.drew (Up.refl _)));have SZ:=an (show w.heap.size+2<=(((w.alloc (.cells (be q) 87)).alloc (.cells (aC aM) 60)).drew).heap.size by have:=C3.lt;omega);have HZ:Hid ((aC aM).size=(aC s.val).size):=an qC;clear d0 c0;generalize((w.alloc (.cells (be q) 87)).alloc (.cells (aC aM) 60)).drew=w3 at *;have SS:=an (show ∀W,PG w H P W->aF W w.heap.size 87 (be q)->W.cell? (ad H.pb 0)=some (pz H.h.d)/\W.cell? (ad w.heap.size 0)=some (i6 (n:Int))from λW g b=>⟨g.1.cells.1,by rw[(rV b).1,ND.out]⟩);have S3:=SS _ G3 B3;refine o8 ?_;refine tb 3 rfl (yc (λW h=>h.1)) ?_;refine ta 4 ?_;refine tb 5 rfl (yc (λW h=>h.2)) ?_;refine(λ(FIN:∀g w',w.heap.size+2<=g->aF w' g 60 (aC s.val)->PG w H P w'->aF w' w.heap.size 87 (be q)->aF w' (w.heap.size+1) 60 (aC aM)->(?G:Nat->af->Prop) g w')=>?main) ?tail
  case main=>
   refine qa 6 10 al rfl rfl rfl rfl ?_ ?_
   ·intro K hK;go_simp;refine(DR _ G3.1.dev).mono ?_;rintro e w4⟨rfl,D4,T4⟩;obtain⟨G4,B4,C4,Z4⟩:=bW (G3.dev D4 T4) (B3.ax T4 (λhf=>NR (.inr (.inr hf)))) (C3.ax T4 (λhf=>NS (.inr (.inr hf)))) (bK SZ T4.size);have S4:=SS _ G4 B4;refine hK _ _ S4 ?_;clear hK K;refine ta 7 ?_;refine ta 8 ?_;refine ta 9 ?_;refine ok 10 ?_;intro K hK;refine fm 60 rfl (aC aM) hP ?_;have U5:=ai w4 (.cells (aC aM) 60);obtain⟨G5,B5,C5,A5,L5,Z5⟩:=ix (G4.up U5) (B4.up U5) (C4.up U5) (aF.new w4 60 (aC aM)) (show ∀b,cM H.h b->b<w4.heap.size from G4.1.dev.lt) (bK Z4 U5.size);obtain⟨Y5,S5⟩:=az Z4.out (SS _ G5 B5);refine hK _ _ S5 ?_;refine gC ?_;clear hK K;obtain⟨g,hg⟩:=bE (w4.heap.size);rw[<-hg]at A5 L5 Y5 ⊢;generalize w4.alloc (.cells (aC aM) 60)=w5 at *;clear hg;refine ok 11 ?_;intro K hK;refine tf 60 (.tmp 6) (.tmp 20) rfl g (aC s.val) rfl rfl 60 (aC aM) A5 IS HZ OS ?_;refine Nt ?_;intro g9 G9 B9 C9;have A9:=A5.set (aC s.val);refine hK _ _ (SS _ G9 B9) ?_;refine gC ?_;clear hK K;generalize w5.setRow g (aC s.val)=w9 at *;refine tk 12 (i6 0) rfl ya (SS _ G9 B9) ?_;refine nr ?_;exact FIN g w9 Y5 A9 G9 B9 C9
   ·intro K hK;refine fm 60 rfl (aC aM) hP ?_;have U4:=ai w3 (.cells (aC aM) 60);obtain⟨G4,B4,C4,A4,L4,Z4⟩:=ix (G3.up U4) (B3.up U4) (C3.up U4) (aF.new w3 60 (aC aM)) (show ∀b,cM H.h b->b<w3.heap.size from G3.1.dev.lt) (bK SZ U4.size);obtain⟨Y4,S4⟩:=az SZ.out (SS _ G4 B4);refine hK _ _ S4 ?_;refine gC ?_;clear hK K;obtain⟨g,hg⟩:=bE (w3.heap.size);rw[<-hg]at A4 L4 Y4 ⊢;generalize w3.alloc (.cells (aC aM) 60)=w4 at *;clear hg;refine ok 6 ?_;intro K hK;go_simp;refine(DR _ G4.1.dev).mono ?_;rintro e w5⟨rfl,D5,T5⟩;obtain⟨G5,B5,C5,Z5⟩:=bW (G4.dev D5 T5) (B4.ax T5 (λhf=>NR (.inr (.inr hf)))) (C4.ax T5 (λhf=>NS (.inr (.inr hf)))) (bK Z4 T5.size);have S5:=SS _ G5 B5;have A4:=an (A4.ax T5 (λhf=>by have:=L4 _ hf;omega));refine hK _ _ S5 ?_;refine U9 ?_;clear hK K;refine ok 11 ?_;intro K hK;refine tf 60 (.tmp 6) (.tmp 20) rfl g (aC s.val) rfl rfl 60 (aC aM) A4 IS HZ OS ?_;refine Nt ?_;intro g9 G9 B9 C9;have A9:=A4.set (aC s.val);refine hK _ _ (SS _ G9 B9) ?_;refine gC ?_;clear hK K;generalize w5.setRow g (aC s.val)=w9 at *;refine tk 12 (i6 0) rfl ya (SS _ G9 B9) ?_;refine nr ?_;exact FIN g w9 Y4 A9 G9 B9 C9
  case tail=>
   intro g w5 aI ar aq aj aP;obtain⟨G4,B4,C4,S4,HG⟩:=eW aq aj aP ar aI;clear SZ SS S3 DR aI;go_wp2;obtain⟨G5,B5,C5,S5⟩:=bW (G4.up (Up.drew (Up.refl _))) (B4.up (Up.drew (Up.refl _))) (C4.up (Up.drew (Up.refl _))) (S4.up (Up.drew (Up.refl _)));obtain⟨e0,e1,e2⟩:=rV B5;rw[<-SM.out]at e2;have SB:=iA S5 0 128 128 (by rw[s.property];omega) ae ae ae;rw[Aaw,dq (by rw[s.property];omega)]at SB;have SO:=an (Jo (GI _ _ _ SB));rw[show gA 0 s.val=dQ s from rfl]at SO;clear e0 e1;generalize dQ s=sm at *;refine wJ 4 al al ?_;refine rK ?_;change Ade _ _ (World.drew _) (λa'=>Aal _ _ _ _ a' (World.drew _)) _ _;still_step;still_call SO;repeat still_step
   refine hB ?_;clear e2;generalize w5.drew=w6 at *;go_wp2_with(first
    | refine arm ?_
    | refine db 60 4 38 (aC s.val) C5 (hi:=IS) (hold:=HZ) ?_)
   intro w7 ag aK;have G7:=an (G5.grown aK NS ae);go_wp2;(try simp only[exi]);exact bG (hi:=IS) (.tuple #[.agg (aC s.val),i6 0]) ag ⟨rfl,G7⟩
def bq.put(P:bq)(i:Nat)(s:cS):bq:={P with C:=P.C.set i s,m:=P.m+1,fl:=false,s:=ff P.s i 2}
def aa3(P:bq)(H:aR)(s:cS)(w:af)(e:Ab2)(w':af):Prop:=∃i:Nat,i<1024/\P.s i=1/\e=.returned (.tuple #[.agg (be ⟨i,P.st,dQ s⟩),.int .i64 0])/\PT w H (P.put i s) w'
theorem IX(w:af)(H:aR)(P:bq)(A:PA w H P)(vb:ah)(b:List aj)(hb:∀w',Touch (PF H) w w'->a8 w' vb b)(aa:κ b<=128)(hm:P.m<=900000)(hf:∀i,P.s i=1->i<κ P.C)(h0:0<bN P.s):Aae Aag 101 #[pz H.pb,vb] w (aa3 P H (eS b aa) w):=by
 have HB:=an hb;have aD:=hb w (Touch.refl _ _);obtain⟨va,vc,rfl⟩:=aD.slice;have U1:=an (ai w (.cells (be hole) 87));have A1:=an (A.up U1);obtain⟨c0,c1,c2,c3⟩:=A1.cells;obtain⟨NR,HF,H0⟩:=aV (show ¬PF H w.heap.size from λhf=>wQ) hf h0;refine Gp ?_;intro t1 t2;clear hb hf h0 c0 c2 c3;go_in;go_wp2_with(refine arm ?_);refine(B9 _ H.mb P.s A1.map).mono ?_;rintro e w2(⟨i,hi,hs,rfl,S2,T2⟩|⟨hc,_,_⟩);rotate_left
 ·simp only[Hid]at *;omega
 obtain⟨A2,B2,T2,HS⟩:=bW (A1.G2 S2 T2) ((aF.new w 87 (be hole)).ax T2 (λe=>NR (.inr (.inl e)))) ((Touch.bP (F:=PF H) U1).trans (T2.mono (F':=PF H) (λn h=>.inr (.inl h))) (λn h _=>h)) hs;have ab:=HF i hs;have aB:=an (HB w2 T2);have W:=an (BZ w2 H _ A2 i ab _ b aB aa hm);clear hs c1;go_wp2_with fail;refine W.mono ?_;rintro e w3⟨rfl,T3⟩;obtain⟨vp,A3,TT,O3⟩:=T3;obtain⟨B3,T3⟩:=aw (B2.ax TT (λh=>NR h)) (PT.then T2 (vp:=H.h.vp) (λ_ h=>.inl h) (show PT w2 (H.at H.h.vp) _ w3 from⟨vp,A3,TT,O3⟩));clear O3;go_wp2_with(first
  | refine bB 87 fL ?_
  | refine eh 87 8 30 w3 (be ⟨(i:Int),P.st,dQ (eS b aa)⟩) 87 (be hole) ?_
  | refine cY 87 8 (aF.new w3 87 (be ⟨(i:Int),P.st,dQ (eS b aa)⟩)) ?_
  | refine db 87 4 42 (be ⟨(i:Int),P.st,dQ (eS b aa)⟩) (B3.up (ai _ _)) ?_)
 intro w7 ag aK;go_wp2;exact bG (.tuple #[.agg (be ⟨(i:Int),P.st,dQ (eS b aa)⟩),i6 0]) ag ⟨i,hi,HS,rfl,((T3.up (ai w3 _)).grow (B3.up (ai _ _)) rfl aK (aE _))⟩
theorem tD(w:af)(H:aR)(P:bq)(A:PA w H P)(i:Nat)(hi:i<1024)(hs:P.s i=2)(hC:i<κ P.C)(vb:ah)(b:List aj)(hb:a8 w vb b)(aa:κ b<=128)(hm:P.m<=900000):Aae Aag 260 #[pz H.pb,i6 (i:Int),vb] w λe w'=>e=rt #[.agg (be ⟨i,P.st,dQ (eS b aa)⟩),i6 0]/\PT w H {P with C:=P.C.set i (eS b aa),m:=P.m+1,fl:=false} w':=by
 obtain⟨va,vc,rfl⟩:=hb.slice;have U1:=an (ai w (.cells (be hole) 87));have A1:=an (A.up U1);obtain⟨c0,c1,c2,c3⟩:=A1.cells;have HM:=an (show Ia (cG (qW P.s 2)) (i:Int)=true from by rw[r5];refine TM (uG _) ?_;rw[<-r5,EX];exact⟨i,rfl,hi,hs⟩)
 refine Gp ?_;intro t1 t2;clear hs c0 c2 c3;go_in;go_wp2_with(refine arm ?_);refine(Cl _ H.mb P.s A1.map).mono ?_;rintro e w2⟨u,rfl,own,U2⟩;have SH:=Jn w2 u _ (own.row Cj) (λa m c e=>(own.aJ a.block tp).2) (i:Int);rw[HM.out]at SH;clear c1;go_wp2_with fail;refine SH.mono ?_;rintro e w3⟨rfl,U3⟩;have U3:=an (U2.trans U3);go_wp2_with fail;refine(BZ w3 H P (A1.up U3) i hC _ b (hb.up (U1.trans U3)) aa hm).mono ?_;rintro e w4⟨rfl,T4⟩;obtain⟨vp,A4,TT,O4⟩:=T4;obtain⟨B4,T4⟩:=aw (((aF.new w 87 (be hole)).up U3).ax TT (λh=>(λhf=>wQ) h)) (PT.pre (U1.trans U3) ⟨vp,A4,TT,O4⟩);clear O4;go_wp2_with(first|refine arm ?_|refine oJ ?_);intro w7 ag aK;go_wp2;exact bG (.tuple #[.agg (be ⟨(i:Int),P.st,dQ (eS b aa)⟩),i6 0]) ag ⟨rfl,(T4.grow B4 rfl aK (aE _))⟩
def gX(s:Nat->Nat)(ba:Nat)(q:au):Nat->Nat:=if q=hole then s else if ba<q.aU then sS s q.loc 2 1 else sS s q.loc 2 3
def aaX(P:bq)(H:aR)(q:au)(w:af)(e:Ab2)(w':af):Prop:=(∃r,e=.returned (.int .i64 r))/\PA w' H {P with s:=gX P.s P.ba q}/\Touch (PF H) w w'
theorem DX(w:af)(H:aR)(P:bq)(A:PA w H P)(q:au):Aae Aag 162 #[pz H.pb,.agg (be q)] w (aaX P H q w):=by
 have EQ:=D2 q;obtain⟨U1,B1⟩:=aw (ai w (.cells (be q) 87)) (aF.new w 87 (be q));have A1:=an (A.up U1);by_cases hh:q=hole
 ·rw[h8 hh]at EQ;have HS:=an (show gX P.s P.ba q=P.s by unfold gX;rw[bI hh]);clear hh;go_in;go_wp2_with(refine arm ?_);go_ret;refine⟨⟨_,rfl⟩,?_,Touch.bP U1⟩;rw[HS.out];exact A1
 rw[jj hh]at EQ;have NH:=an hh;clear hh;have HD:=an (show gX P.s P.ba q=if P.ba<q.aU then sS P.s q.loc 2 1 else sS P.s q.loc 2 3 by unfold gX;rw[aY NH.out]);obtain⟨d0,d1,d2⟩:=rV B1;obtain⟨c0,c1,c2,c3⟩:=A1.cells;obtain⟨A2,U2⟩:=aw ((A1.up (Up.drew (Up.refl _))).up (Up.drew (Up.refl _))) ((U1.trans (Up.drew (Up.refl _))).trans (Up.drew (Up.refl _)));clear c0 c2 d2;by_cases hlt:P.ba<q.aU
 ·have HS:=an (show gX P.s P.ba q=sS P.s q.loc 2 1 by rw[HD.out,bI hlt]);have t1:decide (P.ba<q.aU)=true:=by simpa using hlt
  have t2:decide ((P.ba:Int)<(q.aU:Int))=true:=ab
  have FR:=an (RN _ H.mb P.s A2.map q.loc);exact Uw
 ·have HS:=an (show gX P.s P.ba q=sS P.s q.loc 2 3 by rw[HD.out,aY hlt]);have t1:decide (P.ba<q.aU)=false:=by simpa using hlt
  have t2:decide ((P.ba:Int)<(q.aU:Int))=false:=ab
  have FR:=an (QL _ H.mb P.s A2.map q.loc);exact Uw
def aP(l:List au):Array ah:=(l.flatMap dL).toArray
def dM:List au:=Aad 8 hole
theorem b7(l:List au):(aP l).size=κ l*3:=by simp[aP,pw.flat]
theorem fH(l:List au):(aP l).toList=l.flatMap dL:=aA
def Q6(l:List au):(aP l).all (·.oneCell')=true:=Bh (λv hv=>pw.cu l v hv)
theorem rq:(prog.info? 176).map (·.size)=some 24:=al
theorem pO:∀W:af,(Acj 176).run Aag W=.ok (.agg (aP dM)) W:=(lA (P:=Aag) (t:=176) (v:=.agg (aP dM)) (n:=24) aA).1
theorem wU(l:List au)(k:Nat)(h:k<κ l):(aP l).extract (k*3) (k*3+3)=be l[k]:=by
 rw[aaq];apply h3.1;rw[Array.toList_extract,fH];apply wM;intro j;simp only[List.getElem?_take,List.getElem?_drop,List.extract];by_cases hj:j<3
 ·have h1:=pw.at l k h j hj;simp_all
 ·grind [dL]
theorem AT(l:List au)(hl:κ l=8)(k:Nat)(h:k<κ l)(W:af):(Adf 176 (.agg (aP l)) (i6 (k:Int))).run Aag W=.ok (.agg (be l[k])) W:=by
 have h8:(0:Int)<=(k:Int)/\(k:Int)<((8:Nat):Int):=ae
 have hp:=wU l k h;refine Gq ?_;intro hs hg;simp[Adf,asIntOf,run_underlying (P:=Aag) underlying176,h8,hs,part,hg,hp];omega
theorem wT(h:aF w g t (aP l))(k:Nat)(hk:k<κ l):w.cell? (ad g (k*3))=some (i6 l[k].loc)/\w.cell? (ad g (k*3+1))=some (u6 (l[k].aU:Int))/\w.cell? (ad g (k*3+2))=some (.int .u32 (l[k].sum:Int)):=by
 have key:∀j,j<3->w.cell? (ad g (k*3+j))=(dL l[k])[j]?:=λj hj=>by rw[h.cell];unfold aP;rw[Fg];exact pw.at l k hk j hj
 exact⟨key 0 ae,key 1 ae,key 2 ae⟩
def gh(l:List au):Bool:=decide (l=dM)
theorem Yo(l m:List au)(hl:κ l=8)(hm:κ m=8)(W:af):(Ach 10000 176 (.agg (aP l)) (.agg (aP m))).run Aag W=.ok (decide (l=m)) W:=by
 have hi:∃i,prog.info? 87=some i:=Adt.1 aA;obtain⟨i,hi⟩:=hi;have hc:prog.cellsOf 87=3:=al
 have pp:∀(l:List au) j(h:j<κ l) W,(part 87 (aP l) (j*prog.cellsOf 87)).run Aag W=.ok (fI l[j]) W:=λl j h W=>by refine Gq ?_;intro hs hg;have hp:=wU l j h;rw[hc];simp[part,hg,hs,hp];rfl
 exact vL (P:=Aag) 9999 underlying176 hi (aP l) (aP m) l m hl hm fI (λx y=>decide (x=y)) aq (pp l) (pp m) (λx y W=>zM 9997 x y W) W _ aq
theorem Dt(w:af)(l:List au)(hl:κ l=8):Aae Aag 203 #[.agg (aP l)] w λe w'=>kk (gh l) w e w':=by
 have EQ:=Yo l dM hl rfl;rw[show decide (l=dM)=gh l from rfl]at EQ;generalize gh l=b at *;go_in;go_wp2_with(first
  | (refine jf rfl 176 (.tmp 1) rfl w.heap.size rfl 176 (aP l) (aF.new w 176 (aP l)) _ underlying176 rfl (by rw[b7,hl];exact rq) ?_)
  | (refine wpList_build rfl 176 #[] rfl al ?_;rw[show(prog.built 176 ((#[]:Array (Nat × bU)).map _).toList).getD #[]=aP dM from al]))
 go_ret;exact⟨rfl,ai _ _⟩
theorem j1(p:au):κ (bR p)=16:=aA
def cX(l:List au):List aj:=l.flatMap bR
theorem eb(l:List au):κ (cX l)=16*κ l:=by
 unfold cX;induction l with
 | nil=>rfl
 | cons x l ih=>grind [j1]
theorem xq(l:List au)(k:Nat)(h:k<κ l):cX (l.take (k+1))=cX (l.take k)++bR l[k]:=by unfold cX;rw[et h,gk];simp
def jY(b:List aj)(k:Nat):List aj:=(b.drop (16*k)).take 16
def e1(b:List aj):Nat->Option (List au)
 | 0=>some []
 | k+1=>match e1 b k with
  | none=>none
  | some l=>(mu (jY b k)).map (l++[·])
theorem qO(b:List aj)(k:Nat)(h:e1 b k=none):∀n,k<=n->e1 b n=none
 | 0,hn=>by
  obtain rfl:k=0:=ae
  exact h
 | n+1,hn=>by
  by_cases e:k=n+1
  ·subst e;exact h
  ·rw[e1,qO b k h n ae]
theorem nF(h:e1 b k=some l):e1 b (k+1)=(mu (jY b k)).map (l++[·]):=by rw[e1,h]
theorem k1{b:List aj}:∀{k:Nat}{l:List au},e1 b k=some l->κ l=k
 | 0,l,h=>by simp[e1]at h;subst h;rfl
 | k+1,l,h=>by
  rw[e1]at h;cases h1:e1 b k with
  | none=>rw[h1]at h;cases h
  | some m=>rw[h1]at h;simp only[Option.map_eq_some_iff]at h;obtain⟨p,_,rfl⟩:=h;simp[k1 h1]
theorem IS(l:List au)(k:Nat)(h:k<κ l):jY (cX l) k=bR l[k]:=by
 have e:cX l=cX (l.take k)++(bR l[k]++cX (l.drop (k+1))):=by unfold cX;rw[<-Abc,<-td h,<-gk,fQ]
 grind [cX,eb,jY,j1]
theorem px(l:List au)(hw:∀x∈l,x.wf)(hg:∀x∈l,cA x=true):∀k,k<=κ l->e1 (cX l) k=some (l.take k)
 | 0,_=>rfl
 | k+1,hk=>by rw[nF (px l hw hg k ae),IS l k ae,nE _ (hw _ (cw _)) (hg _ (cw _)),et ae];rfl
def jI(l:List au):Bool:=l.all cA
theorem nn(l:List au):jI l=true↔∀x∈l,cA x=true:=by simp[jI]
def Hj(l:List au)(k:Nat):List aj:=cX (l.take k)++Aad (128-16*k) 0
theorem Jw(l:List au)(hl:κ l=8)(k:Nat)(hk:k<=8):κ (Hj l k)=128:=by grind [Hj,eb]
theorem Sd(l:List au)(hl:κ l=8)(k:Nat)(hk:k<κ l):(Abx (aC (Hj l k)).toList (16*k) ((bR l[k]).map aK)).toArray=aC (Hj l (k+1)):=by
 have h1:κ (cX (l.take k))=16*k:=by grind [eb]
 rw[r3];unfold Abx aC;rw[Aac,j1,<-wI,<-qy,<-Aar,<-Aar];congr 2;unfold Hj;rw[xq l k ae,h5 h1,Fk,h1];rw[wF ae,Aaz,y8,Aa9];simp;omega
def nU(l:List au):List aj × Int:=if jI l=true then(cX l,0)else(aM,51)
def JP(l:List au)(w:af)(e:Ab2)(w':af):Prop:=e=.returned (.tuple #[.agg (aC (nU l).1),.int .i64 (nU l).2])/\Up w w'
theorem BD(h:jI l=true):nU l=(cX l,0):=bI h
theorem QX(hk:k<κ l)(h:cA l[k]=false):nU l=(aM,51):=aY (λhh=>by rw[(nn l).1 hh _ (cw hk)]at h;cases h)
theorem BC(w:af)(l:List au)(hl:κ l=8)(hw:∀x∈l,x.wf):Aae Aag 160 #[.agg (aP l)] w λe w'=>JP l w e w':=by
 have ZS:=hP;obtain⟨HL,HW⟩:=aw hl hw;clear hw;go_in;obtain⟨b0,b1,b2⟩:=cZ (aF.new w 176 (aP l)) (aF.new (w.alloc (.cells (aP l) 176)) 60 (aC aM)) (aF.new ((w.alloc (.cells (aP l) 176)).alloc (.cells (aC aM) 60)) 60 (aC aM));obtain⟨B1,B2,ax⟩:=aV (b1.up (ai _ (.cells (aC aM) 60))) b2 (((ai w (.cells (aP l) 176)).trans (ai _ (.cells (aC aM) 60))).trans (ai _ (.cells (aC aM) 60)));go_wp2_with(refine jf rfl 176 (.tmp 1) rfl w.heap.size rfl 176 (aP l) ((b0.up (ai _ (.cells (aC aM) 60))).up (ai _ (.cells (aC aM) 60))) _ underlying176 rfl (by rw[b7,hl];exact rq) ?_);generalize aa:((w.alloc (.cells (aP l) 176)).alloc (.cells (aC aM) 60)).alloc (.cells (aC aM) 60)=w3 at *;simp only[Aa3]at B1 B2;clear aa ZS;go_loopw [10] (λi wr=>∃k:Nat,k<=8/\i=i6 k/\(∀j(h:j<κ l),j<k->cA l[j]=true)/\aF wr (w.heap.size+1) 60 (aC aM)/\aF wr (w.heap.size+1+1) 60 (aC (Hj l k))/\Up w wr) (λi _=>8-(Aau i).toNat)
 case atStart=>exact⟨0,bT _,rfl,λj h h0=>ae,B1,B2,ax⟩
 case round=>
  obtain⟨k,hk,rfl,ad,hz,hb,upr⟩:=hrel;obtain⟨HA,HZ,HB⟩:=aV ad hz hb;clear ad;by_cases hlt:k<8
  ·have hkl:k<κ l:=by omega
   have b2:((k:Int)<8)=True:=ab
   have IX:=(λk h W=>AT l hl k h W) k hkl;obtain⟨PB,ST,GN⟩:=aV (λW=>n5 W l[k] (HW _ (cw hkl))) ((Sd l hl) k hkl) (λh=>QX hkl h);have GY:=an (show cA l[k]=true->∀j(h:j<κ l),j<k+1->cA l[j]=true from λh j hj az=>by
    by_cases e:j=k
    ·subst e;exact h
    ·exact HA j hj ae)
   have SL:∀W,(Abo 60 (pz (w.heap.size+1+1)) (some (i6 ((k:Int)*16))) (some (i6 (((k:Int)+1)*16))) none).run Aag W=.ok (sq (w.heap.size+1+1) (16*k) 16 (128-16*k)) W:=λW=>by have:=oo (w.heap.size+1+1) (16*k) (16*k+16) ((k:Int)*16) (((k:Int)+1)*16) ae ae ae ae ae W;rwa [show 16*k+16-16*k=16 from ae]at this
   have sz:(aC (Hj l k)).size=128:=by rw[bX];exact(Jw l hl) k hk
   obtain⟨SC,PL⟩:=aw sz (j1 l[k]);clear sz;generalize l[k]=p at *;obtain⟨pl,pb,ps⟩:=p;unfold be at IX;unfold fI SO at PB;simp only at IX PB;go_wp2_with fail;refine(PB _).mono ?_;rintro e w5(⟨hg,v5,rfl,ay,ao⟩|⟨hg,rfl,ao⟩)
   case inr=>
    have HN:=an (GN hg);clear hg;have aJ:=HZ.up ((ai wr (.cells #[i6 pl,.int .u64 (pb:Int),.int .u32 (ps:Int)] 87)).trans ao);go_wp2_with(first
     | (refine wpList_build rfl 60 #[] rfl al ?_;rw[show(prog.built 60 ((#[]:Array (Nat × bU)).map _).toList).getD #[]=aC aM from al])
     | (refine ep rfl 60 (.tmp 2) (.tmp 21) rfl (w.heap.size+1) (aC aM) rfl rfl 60 (aC aM) aJ dw rfl (dx _) ?_))
    intro w6 ak aH;have aI:=(upr.trans ((ai wr _).trans ao)).aG (fo aH (oY aJ.lt) (λj hj=>Bm)) (hU _);go_wp2;refine bG (.tuple #[.agg (aC aM),i6 51]) ak ⟨by rw[HN.out],aI⟩
   case inl=>
    have V5:=an ay.cu;obtain⟨va,vc,rfl⟩:=V5.slice;have aj:=(ai wr (.cells #[i6 pl,.int .u64 (pb:Int),.int .u32 (ps:Int)] 87)).trans ao;have ar:=HB.up aj;go_wp2_with(refine hJ rfl (.tmp 27) (.tmp 28) 30 30 rfl 5 Aa0 aA aK cy (w.heap.size+1+1) (16*k) 16 (128-16*k) rfl _ _ rfl V5 di 60 _ ar di ?_);intro w6 aY av aH;rw[ST.out]at aY;have aI:=(upr.trans aj).aG av ae;have ak:=(HZ.up aj).grown aH aq;clear SL;go_wp2;go_roundw
    case rel=>exact⟨k+1,ae,gO,(GY hg),ak,aY,aI⟩
    case measure=>simp[Aau];omega
  ·obtain rfl:k=8:=by omega
   have b2:((8:Nat):Int)=8:=rfl;have HN:=an (BD ((nn l).2 (λx hx=>by obtain⟨j,hj,rfl⟩:=jP hx;exact HA j hj ae)))
   have HU:=an (show Hj l 8=cX l by unfold Hj;rw[dq ae];simp)
   have hb:=HB.out;rw[HU.out]at hb;have bs:(aC (cX l)).size=128:=by rw[bX,eb,HL.out]
   have ag:=an (show(prog.info? 60).map (·.size)=some (aC (cX l)).size by rw[bs];exact dw);go_wp2_with(first
    | (refine jf rfl 60 (.tmp 4) rfl (w.heap.size+1+1) rfl 60 _ hb _ Acs rfl ag ?_)
    | (refine ep rfl 60 (.tmp 2) (.tmp 31) rfl (w.heap.size+1) (aC (cX l)) rfl rfl 60 (aC aM) HZ ag (by rw[bs];rfl) (dx _) ?_))
   intro w6 ak aH;have aI:=upr.aG (fo aH (oY HZ.lt) (λj hj=>Bm)) (hU _);go_wp2;refine bG (hi:=ag) (.tuple #[.agg (aC (cX l)),i6 0]) ak ⟨by rw[HN.out],aI⟩
def lJ(s:List aj):List au × Int:=match e1 s 8 with
 | some l=>(l,0)
 | none=>(dM,51)
def aa1(s:List aj)(w:af)(e:Ab2)(w':af):Prop:=e=.returned (.tuple #[.agg (aP (lJ s).1),.int .i64 (lJ s).2])/\Up w w'
theorem GG(s:List aj):κ (lJ s).1=8:=by
 unfold lJ;split
 ·grind [k1]
 ·rfl
def lE(l:List au):List au:=l++Aad (8-κ l) hole
theorem CR(l:List au)(h:κ l<=8):κ (lE l)=8:=by grind [lE]
theorem Lg(l:List au)(h:κ l=8):lE l=l:=by unfold lE;simp[h]
theorem II(l:List au)(h:κ l<8)(p:au):(lE l).set (κ l) p=lE (l++[p]):=by unfold lE;rw[y4 _ _ (aE _),Nat.sub_self];rw[show 8-κ l=(8-κ (l++[p]))+1 from ab,List.replicate_succ,List.set_cons_zero,Aa9];rfl
theorem VO(l:List au)(k:Nat)(hk:k<κ l)(p:au):(((aP l).setIfInBounds (k*3) (i6 p.loc)).setIfInBounds (k*3+1) (u6 (p.aU:Int))).setIfInBounds (k*3+2) (.int .u32 (p.sum:Int))=aP (l.set k p):=by
 apply h3.1;rw[Abl,Abl,Abl,fH,fH];apply wM;intro j;obtain⟨q,r,hr,hj⟩:∃q r,r<3/\j=q*3+r:=⟨j/3,j%3,ae,ae⟩;subst hj;simp only[List.getElem?_set,pw.flat,Aat];by_cases hq:q<κ l
 ·rw[pw.at (l.set k p) q ab r hr,pw.at l q hq r hr];grind [dL]
 ·rw[aY ae,aY ae,aY ae];rw[tc (by rw[pw.flat];omega),tc (by rw[pw.flat,Aat];omega)]
theorem aF.aaB(h:aF w g t (aP l))(k:Nat)(hk:k<κ l)(p:au):aF (((w.setCell ⟨g,k*3,none⟩ (i6 p.loc)).setCell ⟨g,k*3+1,none⟩ (u6 (p.aU:Int))).setCell ⟨g,k*3+2,none⟩ (.int .u32 (p.sum:Int))) g t (aP (l.set k p)):=by rw[<-VO l k hk p];exact((h.setCell _ _).setCell _ _).setCell _ _
theorem TJ(h:aF w g t (aP l))(k:Nat)(p:au):w.grownBy (((w.setCell ⟨g,k*3,none⟩ (i6 p.loc)).setCell ⟨g,k*3+1,none⟩ (u6 (p.aU:Int))).setCell ⟨g,k*3+2,none⟩ (.int .u32 (p.sum:Int))) (some g):=by obtain⟨h1,g1⟩:=az (h.setCell (k*3) (i6 p.loc)) (bZ h (k*3) (i6 p.loc));obtain⟨g2,g3⟩:=az (bZ h1 (k*3+1) (u6 (p.aU:Int))) (bZ (h1.setCell (k*3+1) (u6 (p.aU:Int))) (k*3+2) (.int .u32 (p.sum:Int)));exact⟨aA,aA,aA,bK g1.size (bK g2.size g3.size),λj hj hne=>by rw[g3.block j (ej hj (bK g1.size g2.size)) hne,g2.block j (ej hj g1.size) hne,g1.block j hj hne]⟩
theorem RH{s:List aj}(h:aF w g t (aC s))(hs:κ s=128)(k:Nat)(hk:k<8):a8 w (sq g (16*k) 16 (128-16*k)) (jY s k):=by
 have hl:κ (jY s k)=16:=by grind [jY]
 refine .inr ⟨g,16*k,128-16*k,ab,ae,ae,dK,λi hi=>?_⟩;grind [Je,jY]
theorem Li{s:List aj}(h:e1 s k=some l)(h2:mu (jY s k)=none)(hk:k<8):lJ s=(dM,51):=by unfold lJ;rw[qO s (k+1) (by grind [nF]) 8 ae]
theorem Lj{s:List aj}(h:e1 s 8=some l):lJ s=(l,0):=by grind [lJ]
theorem DP(w:af)(s:List aj)(hs:κ s=128)(h0:(lJ s).2=0):Aae Aag 191 #[.agg (aC s)] w λe w'=>aa1 s w e w':=by
 obtain⟨HS,H0⟩:=aw hs h0;clear hs h0;go_in;obtain⟨b0,b1,b2⟩:=cZ (aF.new w 60 (aC s)) (aF.new (w.alloc (.cells (aC s) 60)) 176 (aP dM)) (aF.new ((w.alloc (.cells (aC s) 60)).alloc (.cells (aP dM) 176)) 176 (aP dM));obtain⟨B0,B1,B2,ax⟩:=bW ((b0.up (ai _ (.cells (aP dM) 176))).up (ai _ (.cells (aP dM) 176))) (b1.up (ai _ (.cells (aP dM) 176))) b2 (((ai w (.cells (aC s) 60)).trans (ai _ (.cells (aP dM) 176))).trans (ai _ (.cells (aP dM) 176)));go_wp2_with(refine dS rfl 176 rfl (aP dM) pO ?_);generalize aa:((w.alloc (.cells (aC s) 60)).alloc (.cells (aP dM) 176)).alloc (.cells (aP dM) 176)=w3 at *;simp only[Aa3]at B1 B2;clear aa;go_loopw [8] (λi wr=>∃(k:Nat)(l:List au),k<=8/\i=i6 k/\e1 s k=some l/\aF wr w.heap.size 60 (aC s)/\aF wr (w.heap.size+1) 176 (aP dM)/\aF wr (w.heap.size+1+1) 176 (aP (lE l))/\Up w wr) (λi _=>8-(Aau i).toNat)
 case atStart=>exact⟨0,[],bT _,rfl,rfl,B0,B1,B2,ax⟩
 case round=>
  obtain⟨k,l,hk,rfl,aN,hs,hz,hb,upr⟩:=hrel;obtain⟨al,av,HZ,HB,ad⟩:=eW aN hs hz hb (k1 aN);clear aN;by_cases hlt:k<8
  ·have b2:((k:Int)<8)=True:=by simp;omega
   have SL:∀W,(Abo 60 (pz w.heap.size) (some (i6 ((k:Int)*16))) (some (i6 (((k:Int)+1)*16))) none).run Aag W=.ok (sq w.heap.size (16*k) 16 (128-16*k)) W:=λW=>by have:=oo w.heap.size (16*k) (16*k+16) ((k:Int)*16) (((k:Int)+1)*16) ae ae ae ae ae W;rwa [show 16*k+16-16*k=16 from ae]at this
   have RD:=an (qP wr _ _ (RH av HS k hlt) (by have:=HS.out;grind [jY]));unfold SP at RD;go_wp2_with fail;refine RD.mono ?_;rintro e w5(⟨p,hp,rfl,ao⟩|⟨hp,rfl,ao⟩)
   case inr=>exact absurd H0.out (by rw[Li al hp hlt];decide)
   case inl=>
    obtain⟨pl,pb,ps⟩:=p;unfold fI;simp only;have upa:=(ai w5 (.cells #[i6 pl,.int .u64 (pb:Int),.int .u32 (ps:Int)] 87));have ar:=(HB.up ao).up upa;have hkl:k<κ (lE l):=by rw[CR l di];exact hlt
    obtain⟨d0,d1,d2,f0,f1,f2⟩:=q5 ((wT ar k hkl).1) ((wT ar k hkl).2.1) ((wT ar k hkl).2.2) (ar.free (k*3)) (ar.free (k*3+1)) (ar.free (k*3+2));have aX:=an ar;have HST:=an (show(lE l).set k ⟨pl,pb,ps⟩=lE (l++[⟨pl,pb,ps⟩])by have:=II l di ⟨pl,pb,ps⟩;rwa [ad.out]at this)
    have aJ:=an hkl;clear SL;generalize(lE l)[k]=p0 at *;clear hkl;go_wp2;go_roundw
    case rel=>have G:=TJ aX k ⟨pl,pb,ps⟩;exact⟨k+1,l++[⟨pl,pb,ps⟩],ae,gO,(by rw[nF al.out,hp];rfl),((av.up ao).up upa).grown G ab,((HZ.up ao).up upa).grown G aq,by rw[<-HST.out];exact aX.aaB k aJ ⟨pl,pb,ps⟩,((upr.trans ao).trans upa).aG (fo G (oY aX.lt) (λj hj=>aQ)) ae⟩
    case measure=>simp[Aau];omega
  ·obtain rfl:k=8:=by omega
   have b2:((8:Nat):Int)=8:=rfl;have HN:=an (Lj al);have hb:=HB.out;rw[Lg l ad.out]at hb;have bs:(aP l).size=24:=by rw[b7,ad.out]
   have ag:=an (show(prog.info? 176).map (·.size)=some (aP l).size by rw[bs];exact rq);go_wp2_with(first
    | (refine jf rfl 176 (.tmp 4) rfl (w.heap.size+1+1) rfl 176 _ hb _ underlying176 rfl ag ?_)
    | (refine ep rfl 176 (.tmp 2) (.tmp 28) rfl (w.heap.size+1) (aP l) rfl rfl 176 (aP dM) HZ ag (by rw[bs];rfl) (Q6 _) ?_))
   intro w6 ak aH;have aI:=upr.aG (fo aH (oY HZ.lt) (λj hj=>Bm)) (hU _);go_wp2;refine bG (hi:=ag) (.tuple #[.agg (aP l),i6 0]) ak ⟨by rw[HN.out],aI⟩

theorem rT(l:List au):κ (l.flatMap dL)=κ l*3:=pw.flat l
theorem BG(h:aF w g t (aP l))(k m:Nat)(ab:k+m<=κ l):w.rangeAt g (k*3) (aP ((l.drop k).take m)).toList:=λj v hj=>by
 rw[fH]at hj;rw[h.cell];have e:(aP l)[k*3+j]?=(l.flatMap dL)[k*3+j]?:=by rw[<-fH];simp
 rw[e];have hs:l.flatMap dL=(l.take k).flatMap dL++(((l.drop k).take m).flatMap dL++((l.drop k).drop m).flatMap dL):=by rw[<-gk,<-gk,fQ,fQ]
 have aa:j<κ (((l.drop k).take m).flatMap dL):=by
  rcases jO j (κ (((l.drop k).take m).flatMap dL)) with h|h
  ·exact h
  ·rw[tc h]at hj;cases hj
 have hk:κ ((l.take k).flatMap dL)=k*3:=by rw[rT,ez];congr 1;omega
 rw[hs,yN ae,hk,Fq,yM aa,hj]
theorem wV(h:aF w g t (aP l))(k:Nat)(hk:k<κ l):w.rangeAt g (k*3) (be l[k]).toList:=by have:=BG h k 1 ae;rw[List.take_one,List.head?_drop,h6 hk]at this;assumption
theorem ny(l m:List au)(k:Nat)(ab:k+κ m<=κ l):(Abx (aP l).toList (k*3) (aP m).toList).toArray=aP (l.take k++m++l.drop (k+κ m)):=by
 apply h3.1;rw[fH,fH,Ac0,fH];have h1:κ ((l.take k).flatMap dL)=k*3:=by grind [rT]
 have h2:κ ((l.take (k+κ m)).flatMap dL)=k*3+κ m*3:=by grind [rT]
 unfold Abx;rw[rT m];have e1:(l.flatMap dL).take (k*3)=(l.take k).flatMap dL:=by
  conv=>lhs;rw[<-fQ k l,gk]
  simp_all
 have e2:(l.flatMap dL).drop (k*3+κ m*3)=(l.drop (k+κ m)).flatMap dL:=by
  conv=>lhs;rw[<-fQ (k+κ m) l,gk]
  simp_all
 simp_all
def jU(l:List au):(aP l).all (·.oneCell')=true:=Bh (pw.cu l)
theorem IJ(p:au):aP [p]=be p:=aA
theorem hI(l:List au)(h:κ l=8):(prog.info? 176).map (·.size)=some (aP l).size:=by grind [b7,rq]
theorem ru(l:List au)(h:κ l=17):(prog.info? 178).map (·.size)=some (aP l).size:=by rw[b7,h];kernel_rfl
def ke:List au:=Aad 17 hole
theorem Xb:∀W:af,(Acj 178).run Aag W=.ok (.agg (aP ke)) W:=(lA (P:=Aag) (t:=178) (v:=.agg (aP ke)) (n:=51) aA).1
def node8(C:List cS)(q:au):Option (List au):=(fM C q).bind λs=>if(lJ s.val).2=0 then some (lJ s.val).1 else none
theorem ph{C:List cS}{q:au}(h:node8 C q=some l):∃s,fM C q=some s/\lJ s.val=(l,0):=by
 unfold node8 at h;cases hb:fM C q with
 | none=>simp_all
 | some s=>grind
theorem cN{C:List cS}{q:au}(h:node8 C q=some l):κ l=8:=by grind [ph,GG]
theorem r7(w:af)(H:aR)(P:bq)(A:PA w H P)(q:au)(l:List au)(hq:node8 P.C q=some l):Aae Aag 120 #[pz H.pb,.agg (be q)] w λe w'=>e=rt #[.agg (aP l),i6 0]/\PG w H P w':=by
 have hl:=cN hq;obtain⟨s,hs,hn⟩:=ph hq;obtain⟨IS,IN,ON⟩:=aV (dJ s) (hI l hl) (jU l);have HN:Hid ((aP dM).size=(aP l).size):=an (by rw[b7,b7,hl];rfl);obtain⟨U2,b2⟩:=az (ai (w.alloc (.cells (be q) 87)) (.cells (aP dM) 176)) (aF.new (w.alloc (.cells (be q) 87)) 176 (aP dM));rw[aN]at b2;obtain⟨UU,NE,NS⟩:=aV ((ai w (.cells (be q) 87)).trans U2) hn (show ¬PF H (w.heap.size+1)from λhf=>wQ);clear hq hn hl;go_in;go_wp2_with(refine arm ?_);refine(vx _ H P (A.up UU) q s hs).mono ?_;rintro e w3⟨rfl,g3⟩;go_wp2_with(first
  | refine arm ?_
  | ((with_reducible refine cx 60 (.tmp 6) (.tmp 13) ?_);refine fK w3 rfl 60 (.tmp 6) (.tmp 13) rfl (aC s.val) 60 (aC aM) rfl rfl rfl IS (an qC) (dx s.val) ?_))
 refine((λW=>DP W s.val s.property (by rw[NE.out])) _).mono ?_;rintro e w4⟨rfl,u4⟩;have U4:=an ((ai w3 (.cells (aC s.val) 60)).trans u4);rw[NE.out];go_wp2_with(first
  | refine arm ?_
  | ((with_reducible refine cx 176 (.tmp 8) (.tmp 22) ?_);refine fK w4 rfl 176 (.tmp 8) (.tmp 22) rfl (aP l) 176 (aP dM) rfl rfl rfl IN HN ON ?_)
  | refine db 176 4 27 (aP l) (((b2.ax g3.2 NS).up U4).up (ai _ _)) (hi:=IN) (h1:=ON) (hold:=HN) ?_)
 intro w7 ag aK;go_wp2;exact bG (hi:=IN) (.tuple #[.agg (aP l),i6 0]) ag ⟨rfl,(((((PG.of A UU).trans g3).up U4).up (ai _ _)).grown aK NS ae)⟩
def bJ(l:List au):cS:=if h:κ (nU l).1=128 then⟨(nU l).1,h⟩ else ey
theorem rS(hl:κ l=8)(hg:jI l=true):(bJ l).val=(nU l).1/\(nU l).2=0/\(nU l).1=cX l:=by grind [BD,bJ,nU,cX,eb]
theorem Re(s:cS):e' s.val=s.val:=by unfold e';rw[s.property];simp
def V4(s:cS)(h:κ s.val<=128):eS s.val h=s:=Subtype.ext (Re s)
theorem ot(w:af)(H:aR)(P:bq)(A:PA w H P)(l:List au)(hl:κ l=8)(aL:∀x∈l,x.wf)(hg:jI l=true)(hm:P.m<=900000)(hf:∀i,P.s i=1->i<κ P.C)(h0:0<bN P.s):Aae Aag 102 #[pz H.pb,.agg (aP l)] w (aa3 P H (bJ l) w):=by
 obtain⟨v1,v2,v3⟩:=rS hl hg;have HA:=an A;have NB:=BC ((w.alloc (.cells (aP l) 176)).alloc (.cells (be hole) 87)) l hl aL;unfold JP at NB;rw[v2,<-v1]at NB;generalize bJ l=s at *;have SL:=an mE;obtain⟨U2,b2⟩:=az (ai (w.alloc (.cells (aP l) 176)) (.cells (be hole) 87)) (aF.new (w.alloc (.cells (aP l) 176)) 87 (be hole));rw[aN]at b2;clear v1 v2 v3 aL hg;go_in;go_wp2_with(first
  | refine bB 87 fL ?_
  | refine cY 176 3 ((aF.new w 176 (aP l)).up U2) (hi:=(hI l hl)) ?_)
 refine NB.mono ?_;rintro e w3⟨rfl,u3⟩;have U3:=an ((((ai w (.cells (aP l) 176)).trans U2).trans u3).trans (ai w3 (.cells (aC s.val) 60)));go_wp2_with(first
  | refine arm ?_
  | ((with_reducible refine cx 60 (.tmp 6) (.tmp 11) ?_);refine fK w3 rfl 60 (.tmp 6) (.tmp 11) rfl (aC s.val) 60 (aC aM) rfl rfl rfl (dJ s) (an qC) (dx s.val) ?_))
 have HB4:=an (show ∀w',Touch (PF H) (w3.alloc (.cells (aC s.val) 60)) w'->a8 w' (cD w3.heap.size 128 128) s.val from λw' T=>by have hb:=iA ((aF.new w3 60 (aC s.val)).ax T (λhf=>by have:=HA.lt _ hf;have:=(ej b2.lt u3.size);omega)) 0 128 128 ae ae ae ae;rw[Aaw,dq ae]at hb;exact hb)
 have PU:=an ((λW (AW:PA W H P) vb hb=>IX W H P AW vb s.val hb ae hm hf h0) _ (HA.up U3) _ HB4);rw[(V4 s ae)]at PU;refine PU.mono ?_;rintro e w5⟨i,hi,hs,rfl,T5⟩;have HS:=an hs;obtain⟨vp,A5,TT,O5⟩:=T5;obtain⟨B5,T5⟩:=aw (((b2.up u3).up (ai w3 (.cells (aC s.val) 60))).ax TT (λhf=>by have:=HA.lt _ hf;omega)) (PT.pre U3 ⟨vp,A5,TT,O5⟩);clear O5 hs;go_wp2_with(first|refine arm ?_|refine oJ ?_);intro w7 ag aK;go_wp2;exact bG (.tuple #[.agg (be ⟨(i:Int),P.st,dQ s⟩),i6 0]) ag ⟨i,hi,HS,rfl,(T5.grow B5 rfl aK ae)⟩
theorem tP(w:af)(i:Int):Aae Aag 99 #[i6 i] w λe w'=>e=.returned (.bool (decide (0<=i/\i<64)))/\w=w':=by
 by_cases h0:0<=i
 ·have t0:decide (0<=i)=true:=by simp;omega
  by_cases h1:i<64
  ·have t1:decide (i<64)=true:=by simp;omega
   have HR:=an (show decide (0<=i/\i<64)=true from ab);go_in;go_wp2;go_ret;simp;omega
  ·have t1:decide (i<64)=false:=by simp;omega
   exact M'
 ·have t0:decide (0<=i)=false:=by simp;omega
  exact M'
def a6(l:List au)(k:Nat):au:=l.getD k hole
def fA(F S:List au)(p:au):List au:=F++S++[p]
theorem fy{F S:List au}(hF:κ F=8)(hS:κ S=8)(p:au):κ (fA F S p)=17:=tl
theorem Sj{F S:List au}(hF:κ F=8)(p:au):((fA F S p).drop 0).take 8=F:=tl
theorem Mk{F S:List au}(hF:κ F=8)(hS:κ S=8)(p:au):((fA F S p).drop 8).take 8=S:=tl
theorem Si{F S:List au}(hF:κ F=8)(hS:κ S=8)(p:au)(h:16<κ (fA F S p)):(fA F S p)[16]=p:=tl
theorem abT{F S:List au}(hF:κ F=8)(p:au)(k:Nat)(hk:k<8)(h:k<κ (fA F S p)):(fA F S p)[k]=F[k]:=tl
theorem abU{F S:List au}(hF:κ F=8)(hS:κ S=8)(p:au)(k:Nat)(hk:k<8)(h:8+k<κ (fA F S p)):(fA F S p)[8+k]=S[k]:=tl
theorem aaN{F S:List au}(hF:κ F=8)(p:au)(k:Nat)(hk:k<8)(h:k<κ (fA F S p)):(fA F S p)[k]=a6 F k:=by grind [abT,a6]
theorem aaO{F S:List au}(hF:κ F=8)(hS:κ S=8)(p:au)(k:Nat)(hk:k<8)(h:8+k<κ (fA F S p)):(fA F S p)[8+k]=a6 S k:=by grind [abU,a6]
theorem Cx{F S:List au}(hb:aF W g t (aP (fA F S p)))(hF:κ F=8)(k:Nat)(hk:k<8):W.rangeAt g (k*3) (be (a6 F k)).toList:=by have:=wV hb k tl;grind [aaN]
theorem Mj{F S:List au}(hb:aF W g t (aP (fA F S p)))(hF:κ F=8)(hS:κ S=8)(k:Nat)(hk:k<8):W.rangeAt g (24+k*3) (be (a6 S k)).toList:=by have:=wV hb (8+k) uT;grind [aaO]
theorem mM{F S:List au}(hb:aF W g t (aP (fA F S p)))(hF:κ F=8)(hS:κ S=8):W.rangeAt g 48 (be p).toList:=by have:=wV hb 16 uT;grind [Si]
theorem Cy{F S:List au}(hb:aF W g t (aP (fA F S p)))(hF:κ F=8)(hS:κ S=8):W.rangeAt g 0 (aP F).toList:=by have:=BG hb 0 8 uT;grind [Sj]
theorem Cz{F S:List au}(hb:aF W g t (aP (fA F S p)))(hF:κ F=8)(hS:κ S=8):W.rangeAt g 24 (aP S).toList:=by have:=BG hb 8 8 uT;grind [Mk]
theorem WV{F:List au}(lF:κ F=8):(Abx (aP ke).toList 0 (aP F).toList).toArray=aP (fA F dM hole):=by have:=ny ke F 0 (by rw[lF];decide);rw[Nat.zero_mul]at this;rw[this,lF,show List.drop (0+8) ke=dM++[hole] from rfl,Abk,Aaz,<-Aa9];rfl
theorem WW{F S:List au}(lF:κ F=8)(lS:κ S=8):(Abx (aP (fA F dM hole)).toList 24 (aP S).toList).toArray=aP (fA F S hole):=by have:=ny (fA F dM hole) S 8 (by rw[lS,fy lF rfl];decide);grind [fA,dM,hole]
theorem WX{F S:List au}(lF:κ F=8)(lS:κ S=8)(p:au):(Abx (aP (fA F S hole)).toList 48 (be p).toList).toArray=aP (fA F S p):=by have:=ny (fA F S hole) [p] 16 uT;rw[IJ]at this;rw[this];congr 1;unfold fA;rw[h5 ab,wF ab,Ab1]
theorem xc(w:af)(H:aR)(P:bq)(A:PA w H P)(root:au)(i:Nat)(hi:i<64)(F S:List au)(hF:node8 P.C root=some F)(hS:node8 P.C (a6 F (i/8))=some S):Aae Aag 100 #[pz H.pb,.agg (be root),i6 (i:Int)] w λe w'=>e=rt #[.agg (aP (fA F S (a6 S (i%8)))),i6 0]/\PG w H P w':=by
 obtain⟨lF,lS⟩:=az (cN hF) (cN hS);obtain⟨q,hq⟩:=bE (i/8);obtain⟨r,hr⟩:=bE (i%8);have ao:q<8:=ae
 have ak:r<8:=ae
 have av:((i:Int)/8)=(q:Int):=ae
 have al:((i:Int)%8)=(r:Int):=ae
 rw[<-hq]at hS;rw[<-hr];obtain⟨LF,LS,IW⟩:=aV lF lS (ru (fA F S (a6 S r)) (fy lF lS _));obtain⟨U2,U3⟩:=az (ai (w.alloc (.cells (be root) 87)) (.cells (aP ke) 178)) (ai ((w.alloc (.cells (be root) 87)).alloc (.cells (aP ke) 178)) (.cells (aP ke) 178));obtain⟨b2,b3⟩:=az ((aF.new (w.alloc (.cells (be root) 87)) 178 (aP ke)).up U3) (aF.new ((w.alloc (.cells (be root) 87)).alloc (.cells (aP ke) 178)) 178 (aP ke));rw[aN]at b2;rw[aN,aN]at b3;obtain⟨UU,NS,NT⟩:=aV (((ai w (.cells (be root) 87)).trans U2).trans U3) (show ¬PF H (w.heap.size+1)from λhf=>wQ) (show ¬PF H (w.heap.size+1+1)from λhf=>wQ);clear hq hr;have b8:((q:Int)<8)=True:=ab
 have b9:((r:Int)<8)=True:=ab
 have wq:IntKind.i64.wrap (q:Int)=(q:Int):=aX q ae;have wr:IntKind.i64.wrap (r:Int)=(r:Int):=aX r ae;go_in;go_wp2_with(refine arm ?_);refine((λW (AW:PA W H P)=>r7 W H P AW root F hF) _ (A.up UU)).mono ?_;rintro e w4⟨rfl,g4⟩;go_wp2_with(first
  | ((with_reducible refine cx 176 (.tmp 16) (.tmp 14) ?_);refine ch rfl 176 (.tmp 16) (.tmp 14) rfl (w.heap.size+1+1) 0 (aP F) rfl rfl 178 _ (b3.ax g4.2 NT) (hI F lF) (by rw[b7,b7,lF];exact Fa rfl) (jU F) ?_))
 intro w5 ar aq;rw[(WV lF)]at ar;have G5:=an (((PG.of A UU).trans g4).grown aq NT ae);go_wp2_with(first
  | refine cT 87 26 (be (a6 F q)) (Cx ar LF q ao) ?_)
 refine((λW (AW:PA W H P)=>r7 W H P AW (a6 F q) S hS) _ G5.1).mono ?_;rintro e w6⟨rfl,g6⟩;go_wp2_with(first
  | ((with_reducible refine cx 176 (.tmp 31) (.tmp 29) ?_);refine ch rfl 176 (.tmp 31) (.tmp 29) rfl (w.heap.size+1+1) 24 (aP S) rfl rfl 178 _ (ar.ax g6.2 NT) (hI S lS) (by rw[b7,b7,lS,fy lF rfl];omega) (jU S) ?_))
 intro w7 ag aK;rw[(WW lF lS)]at ag;go_wp2_with(first
  | refine cT 87 39 (be (a6 S r)) (Mj ag LF LS r ak) ?_
  | ((with_reducible refine cx 87 (.tmp 41) (.tmp 40) ?_);refine ch rfl 87 (.tmp 41) (.tmp 40) rfl (w.heap.size+1+1) 48 (be (a6 S r)) rfl rfl 178 _ ag (ia (a6 S r)) (by rw[b7,fy lF lS];show 48+3<=17*3;omega) (jX (a6 S r)) ?_))
 intro w8 aj aB;rw[(WX lF lS (a6 S r))]at aj;go_wp2_with(first
  | refine arm ?_
  | refine db 178 6 42 (aP (fA F S (a6 S r))) (((((b2.ax g4.2 NS).grown aq (λe=>aQ)).ax g6.2 NS).grown aK (λe=>aQ)).grown aB (λe=>aQ)) (hi:=IW) (h1:=(jU (fA F S (a6 S r)))) (hold:=(an (by rw[b7,b7,fy LF.out LS.out];rfl))) ?_)
 intro w9 aM aJ;go_wp2;exact bG (hi:=IW) (.tuple #[.agg (aP (fA F S (a6 S r))),i6 0]) aM ⟨rfl,((((G5.trans g6).grown aK NT ae).grown aB NT ae).grown aJ NS ae)⟩

def okB(c:aj):Bool:=(decide (97<=c.toNat) && decide (c.toNat<=122)) || (decide (48<=c.toNat) && decide (c.toNat<=57)) || decide (c.toNat=45) || decide (c.toNat=95)
def ei(l:List aj):Bool:=decide (1<=κ l) && decide (κ l<=24) && l.all okB
theorem O1(c:aj):okB c=true↔(97<=c.toNat/\c.toNat<=122)\/(48<=c.toNat/\c.toNat<=57)\/c.toNat=45\/c.toNat=95:=by grind [okB]
theorem jx(l:List aj):ei l=true↔1<=κ l/\(κ l)<=24/\∀c∈l,okB c=true:=by grind [ei]
def RV(l:List aj)(i:Nat)(h:i<(strOf l).size)(h':i<κ l):(strOf l)[i]'h=l[i]:=rfl
theorem S0{l:List aj}(hk:k<κ l)(h:∀c∈l.take k,okB c=true)(hc:okB l[k]=true):∀c∈l.take (k+1),okB c=true:=by rw[et hk];grind
theorem VP{l:List aj}(hk:k<κ l)(hc:okB l[k]=false):ei l=false:=by grind [jx]
theorem Sk(s:ByteArray)(pos:Nat)(h:pos<s.size):1<=(Abs s pos).2:=by
 by_cases ha:(s[pos]'h).toNat<128
 ·rw[decode_ascii s pos h ha];omega
 ·exact(decode_high s pos h ae).2
theorem YG(s:ByteArray)(pos:Nat)(h:pos<s.size):((97<=(Abs s pos).1/\(Abs s pos).1<=122)\/(48<=(Abs s pos).1/\(Abs s pos).1<=57)\/(Abs s pos).1=45\/(Abs s pos).1=95->okB (s[pos]'h)=true/\(Abs s pos).2=1)/\(¬((97<=(Abs s pos).1/\(Abs s pos).1<=122)\/(48<=(Abs s pos).1/\(Abs s pos).1<=57)\/(Abs s pos).1=45\/(Abs s pos).1=95)->okB (s[pos]'h)=false):=by
 by_cases ha:(s[pos]'h).toNat<128
 ·rw[decode_ascii s pos h ha];grind [O1]
 ·have hd:=(decode_high s pos h ae).1;grind [O1]
theorem kO(w:af)(l:List aj):Aae Aag 150 #[.string (strOf l)] w λe w'=>e=.returned (.bool (ei l))/\Up w w':=by
 have aN:(strOf l).size=κ l:=rfl;obtain⟨R,Wd,G⟩:=aV (λi h=>YG (strOf l) i h) (λi h=>Sk (strOf l) i h) (RV l);generalize strOf l=s at *;by_cases hn:1<=κ l/\(κ l)<=24
 case neg=>
  have hb:ei l=false:=by rw[<-uJ,jx];omega
  rw[hb];clear hb G R Wd;generalize (κ l)=n at *;by_cases h1:n<1
  ·obtain rfl:n=0:=by omega
   go_in;go_wp2;go_ret;exact⟨rfl,Up.refl _⟩
  ·have h2:decide ((n:Int)<1)=false:=by simp;omega
   have h3:decide ((24:Int)<(n:Int))=true:=ab
   clear h1 hn;go_in;go_wp2;go_ret;exact⟨rfl,Up.refl _⟩
 have h2:decide ((κ l:Int)<1)=false:=ab
 have h3:decide ((24:Int)<(κ l:Int))=false:=ab
 have Hn:=an hn;clear hn;go_in;go_wp2;clear h2 h3;go_loopw [4] (λ_ w'=>∃pos:Nat,pos<=κ l/\w'=w.iter s pos/\∀c∈l.take pos,okB c=true) (λ_ w'=>s.size-w'.iterPos w.heap.size)
 case atStart=>exact⟨0,bT _,rfl,aq⟩
 case round=>
  obtain⟨k,hk,rfl,ad⟩:=hrel;have ag:=an ad;clear ad;by_cases hlt:k<κ l
  ·have hp:k<s.size:=by omega
   have aC:∀ty,(Instr.next (pz w.heap.size) true ty).run Aag (w.iter s k)=_:=λty=>run_next_any w s k ty hp;obtain⟨hg,Rk⟩:=az (G k hp hlt) (R k hp);rw[hg]at Rk;obtain⟨aS,aD⟩:=aw (λh=>VP hlt h) (λh=>S0 hlt ag h);have aa:=Wd k hp;generalize Abs s k=dd at *;obtain⟨rn,wd⟩:=dd;simp only at Rk aC aa;have RK:=an Rk;generalize l[k]=c at *;clear Rk;go_wp2;all_goals
    try simp only[Bool.not_eq_false',Bool.not_eq_true',decide_eq_true_eq,decide_eq_false_iff_not,beq_iff_eq,beq_eq_false_iff_ne,Bool.not_eq_eq_eq_not,Bool.not_true,Bool.not_false,ne_eq]at *
    first
     | (go_roundw;(case rel=>(obtain⟨r1,rfl⟩:=RK.1 ae;exact⟨k+1,ae,rfl,aD r1⟩));(case measure=>(simp;omega)))
     | (go_ret;exact⟨by rw[aS.out (RK.out.2 ae)]<;>rfl,ai _ _⟩)
  ·have aC:∀ty,(Instr.next (pz w.heap.size) true ty).run Aag (w.iter s k)=_:=λty=>run_next_end w s k ty ae;obtain rfl:k=κ l:=by omega
   have hb:ei l=true:=by rw[jx];have:=Hn.out;have:=ag.out;grind
   go_wp2;go_ret;exact⟨ab,ai _ _⟩
structure ao where
 id:Nat
 name:List aj
 aT:Bool
 owner:Nat
 prev:Nat
 ay:Nat
 blocks:Int
 root:au
 dead:List au
deriving DecidableEq
def ao.wf(x:ao):Prop:=x.id<18446744073709551616/\x.owner<18446744073709551616/\x.prev<18446744073709551616/\x.ay<18446744073709551616/\(-9223372036854775808<=x.blocks/\x.blocks<=9223372036854775807)/\x.root.wf/\∀p∈x.dead,p.wf
def b8(x:ao)(vd:ah):Array ah:=#[.int .u64 (x.id:Int),.string (strOf x.name),.bool x.aT,.int .u64 (x.owner:Int),.int .u64 (x.prev:Int),.int .u64 (x.ay:Int),.int .i64 x.blocks,.int .i64 x.root.loc,.int .u64 (x.root.aU:Int),.int .u32 (x.root.sum:Int),vd]
def RO(x:ao)(vd:ah):(b8 x vd).size=11:=rfl
theorem mC(x:ao)(a:Option Adr)(n c:Nat):(b8 x (.slice a n c)).all (·.oneCell')=true:=by simp[b8,Value.oneCell']
theorem ku(x:ao)(vd:ah):(prog.info? 90).map (·.size)=some (b8 x vd).size:=aA
structure SS(w:af)(g:Nat)(x:ao)(vd:ah):Prop where
 c0:w.cell? ⟨g,0,none⟩=some (.int .u64 (x.id:Int))
 c1:w.cell? ⟨g,1,none⟩=some (.string (strOf x.name))
 c2:w.cell? ⟨g,2,none⟩=some (.bool x.aT)
 c3:w.cell? ⟨g,3,none⟩=some (.int .u64 (x.owner:Int))
 c4:w.cell? ⟨g,4,none⟩=some (.int .u64 (x.prev:Int))
 c5:w.cell? ⟨g,5,none⟩=some (.int .u64 (x.ay:Int))
 c6:w.cell? ⟨g,6,none⟩=some (.int .i64 x.blocks)
 c7:w.rangeAt g 7 (be x.root).toList
 Ah:w.cell? ⟨g,10,none⟩=some vd
theorem aF.setAt{x:ao}{vd:ah}(h:aF w g t (b8 x vd)):SS w g x vd:=⟨jS,jS,jS,jS,jS,jS,jS,λj v hj=>by
  rw[h.cell];match j,hj with
  | 0,hj=>exact hj
  | 1,hj=>exact hj
  | 2,hj=>exact hj
  | (n+3),hj=>simp[be]at hj,jS⟩
def cK(x:ao):Bool:=decide (1<=x.id) && decide (x.id<=281474976710655) && decide (1<=x.owner) && decide (x.owner<=281474976710655) && decide (x.prev<=281474976710655) && decide (1<=x.blocks) && decide (x.blocks<=64) && ei x.name && cA x.root && decide (κ x.dead<=4000) && hn x.dead && (if x.aT=true then decide (1<=x.ay) && decide (x.ay<=281474976710655)else decide (x.ay=0) && decide (x.owner=x.id))
theorem br(x:ao):cK x=true↔(1<=x.id/\x.id<=281474976710655)/\(1<=x.owner/\x.owner<=281474976710655)/\x.prev<=281474976710655/\(1<=x.blocks/\x.blocks<=64)/\ei x.name=true/\cA x.root=true/\(κ x.dead)<=4000/\hn x.dead=true/\(if x.aT=true then 1<=x.ay/\x.ay<=281474976710655 else x.ay=0/\x.owner=x.id):=by grind [cK]
def SS.GV{id:Nat}{name:List aj}{aT:Bool}{owner prev ay:Nat}{blocks:Int}{root:au}{dead:List au}{vd:ah}(h:SS w g ⟨id,name,aT,owner,prev,ay,blocks,root,dead⟩ vd):w.cell? (ad g 0)=some (u6 (id:Int))/\w.cell? (ad g 1)=some (.string (strOf name))/\w.cell? (ad g 2)=some (.bool aT)/\w.cell? (ad g 3)=some (u6 (owner:Int))/\w.cell? (ad g 4)=some (u6 (prev:Int))/\w.cell? (ad g 5)=some (u6 (ay:Int))/\w.cell? (ad g 6)=some (i6 blocks)/\Hid (w.rangeAt g 7 (be root).toList)/\w.cell? (ad g 10)=some vd:=⟨h.c0,h.c1,h.c2,h.c3,h.c4,h.c5,h.c6,an h.c7,h.Ah⟩
theorem Ck(w:af)(x:ao)(vd:ah)(hd:c9 w vd x.dead):Aae Aag 182 #[.agg (b8 x vd)] w λe w'=>kk (cK x) w e w':=by
 have aO:=hd.length_le;obtain⟨da,dc,rfl⟩:=hd.slice;obtain⟨B1,U1,NR,PR,LR,IFF⟩:=ix (aF.new w 90 (b8 x (.slice da (κ x.dead) dc))) (ai w (.cells (b8 x (.slice da (κ x.dead) dc)) 90)) (λW=>kO W x.name) (λW=>oj W x.root) (λW U=>s7 W (.slice da (κ x.dead) dc) x.dead (aH.up hd U)) (br x);obtain⟨id,name,aT,owner,prev,ay,blocks,root,dead⟩:=x;dsimp only at NR PR LR IFF aO;obtain⟨c0,c1,c2,c3,c4,c5,c6,R7,Ah⟩:=B1.setAt.GV;by_cases h0:id<1
 ·have b0:((id:Int)<1)=True:=by simp;omega
  have HF:=an (show cK ⟨id,name,aT,owner,prev,ay,blocks,root,dead⟩=false by refine dZ ?_;intro hh;exact absurd hh.1.1 ae)
  exact o7
 have b0:((id:Int)<1)=False:=ab
 by_cases h1:281474976710655<id
 ·have b1:((281474976710655:Int)<(id:Int))=True:=by simp;omega
  have HF:=an (show cK ⟨id,name,aT,owner,prev,ay,blocks,root,dead⟩=false by refine dZ ?_;intro hh;exact absurd hh.1.2 ae)
  exact o7
 have b1:((281474976710655:Int)<(id:Int))=False:=ab
 by_cases h2:owner<1
 ·have b2:((owner:Int)<1)=True:=by simp;omega
  have HF:=an (show cK ⟨id,name,aT,owner,prev,ay,blocks,root,dead⟩=false by refine dZ ?_;intro hh;exact absurd hh.2.1.1 ae)
  exact o7
 have b2:((owner:Int)<1)=False:=ab
 by_cases h3:281474976710655<owner
 ·have b3:((281474976710655:Int)<(owner:Int))=True:=by simp;omega
  have HF:=an (show cK ⟨id,name,aT,owner,prev,ay,blocks,root,dead⟩=false by refine dZ ?_;intro hh;exact absurd hh.2.1.2 ae)
  exact o7
 have b3:((281474976710655:Int)<(owner:Int))=False:=ab
 by_cases h4:281474976710655<prev
 ·have b4:((281474976710655:Int)<(prev:Int))=True:=by simp;omega
  have HF:=an (show cK ⟨id,name,aT,owner,prev,ay,blocks,root,dead⟩=false by refine dZ ?_;intro hh;exact absurd hh.2.2.1 ae)
  exact o7
 have b4:((281474976710655:Int)<(prev:Int))=False:=ab
 by_cases h5:blocks<1
 ·have b5:(blocks<1)=True:=by simp;omega
  have HF:=an (show cK ⟨id,name,aT,owner,prev,ay,blocks,root,dead⟩=false by refine dZ ?_;intro hh;exact absurd hh.2.2.2.1.1 ae)
  exact o7
 have b5:(blocks<1)=False:=ab
 by_cases h6:64<blocks
 ·have b6:(64<blocks)=True:=by simp;omega
  have HF:=an (show cK ⟨id,name,aT,owner,prev,ay,blocks,root,dead⟩=false by refine dZ ?_;intro hh;exact absurd hh.2.2.2.1.2 ae)
  exact o7
 have b6:(64<blocks)=False:=ab
 go_in;go_wp2_with fail;refine(NR _).mono ?_;rintro e w2⟨rfl,U2⟩;obtain⟨B2,U3⟩:=aw (B1.up U2) (U1.trans U2);clear c0 c1 c2 c3 c4 c5 c6 Ah;obtain⟨c0,c1,c2,c3,c4,c5,c6,R7,Ah⟩:=B2.setAt.GV;clear NR;cases hnm:ei name
 ·have HF:=an (show cK ⟨id,name,aT,owner,prev,ay,blocks,root,dead⟩=false by refine dZ ?_;intro hh;rw[hnm]at hh;exact absurd hh.2.2.2.2.1 aq)
  go_wp2;go_ret;exact⟨Bp,U3⟩
 have ag:=an hnm;clear hnm;go_wp2_with(refine arm ?_);refine(PR _).mono ?_;rintro e w4⟨rfl,U4⟩;obtain⟨B4,U5⟩:=aw (B2.up U4) (U3.trans U4);clear c0 c1 c2 c3 c4 c5 c6 Ah;obtain⟨c0,c1,c2,c3,c4,c5,c6,R7,Ah⟩:=B4.setAt.GV;clear PR;cases hgd:cA root
 ·have HF:=an (show cK ⟨id,name,aT,owner,prev,ay,blocks,root,dead⟩=false by refine dZ ?_;intro hh;rw[hgd]at hh;exact absurd hh.2.2.2.2.2.1 aq)
  go_wp2;go_ret;exact⟨Bp,U5⟩
 have aa:=an hgd;clear hgd;by_cases aM:4000<κ dead
 ·have bd:((4000:Int)<(κ dead:Int))=True:=by simp;omega
  have HF:=an (show cK ⟨id,name,aT,owner,prev,ay,blocks,root,dead⟩=false by refine dZ ?_;intro hh;exact absurd hh.2.2.2.2.2.2.1 ae)
  go_wp2;go_ret;exact⟨Bp,U5⟩
 have bd:((4000:Int)<(κ dead:Int))=False:=ab
 go_wp2_with fail;refine(LR _ U5).mono ?_;rintro e w6⟨rfl,U6⟩;have U7:=an (U5.trans U6);clear c0 c1 c2 c3 c4 c5 c6 Ah;obtain⟨c0,c1,c2,c3,c4,c5,c6,R7,Ah⟩:=(B4.up U6).setAt.GV;clear LR;cases ad:hn dead
 ·have HF:=an (show cK ⟨id,name,aT,owner,prev,ay,blocks,root,dead⟩=false by refine dZ ?_;intro hh;rw[ad]at hh;exact absurd hh.2.2.2.2.2.2.2.1 aq)
  go_wp2;go_ret;exact⟨Bp,U7⟩
 have aj:=an ad;clear ad;have TT:=an (show(if aT=true then 1<=ay/\ay<=281474976710655 else ay=0/\owner=id)->cK ⟨id,name,aT,owner,prev,ay,blocks,root,dead⟩=true from λht=>IFF.2 ⟨ae,ae,ae,ae,ag,aa,ae,aj,ht⟩);have FF:=an (show ¬(if aT=true then 1<=ay/\ay<=281474976710655 else ay=0/\owner=id)->cK ⟨id,name,aT,owner,prev,ay,blocks,root,dead⟩=false from λht=>by rw[<-uJ,IFF.out];exact λhh=>ht hh.2.2.2.2.2.2.2.2)
 cases aT
 ·by_cases hz:ay=0
  ·by_cases ak:owner=id
   ·have q1:((ay:Int)==0)=true:=by simp;omega
    have q2:((owner:Int)==(id:Int))=true:=ab
    exact No
   ·have q1:((ay:Int)==0)=true:=by simp;omega
    have q2:((owner:Int)==(id:Int))=false:=ab
    exact zr
  ·have q1:((ay:Int)==0)=false:=by simp;omega
   exact zr
 ·by_cases h1:ay<1
  ·have q1:((1:Int)<=(ay:Int))=False:=by simp;omega
   exact zr
  ·have q1:((1:Int)<=(ay:Int))=True:=by simp;omega
   by_cases h2:281474976710655<ay
   ·have q2:((ay:Int)<=281474976710655)=False:=by simp;omega
    exact zr
   ·have q2:((ay:Int)<=281474976710655)=True:=by simp;omega
    exact No
theorem mI(w:af)(o:Obj):(w.alloc o).heap.size=w.heap.size+1:=aq
theorem vT(a b:List aj):((strOf a).toList==(strOf b).toList)=decide (a=b):=by rw[Adl,Adl,mH,mH,Bf];simp
theorem I6{p:Tmp}(h:fn.results=#[.cell p ty])(tmps:Array ah)(P:bp)(w:af)(g:Nat)(t:Aab)(C:Array ah)(hp:tmps.getD p Aas=pz g)(hb:aF w g t C)(d:eQ)(hd:P.underlying ty=some d)(hr:d.isRow=true)(hi:(P.info? ty).map (·.size)=some C.size):(results fn tmps).run P w=.ok (.agg C) w:=by
 simp only[results,h];have:=iF (P:=P) (w:=w) ty g t C hb d hd hr hi;have aI:tmps[p]?.getD Aas=pz g:=aa
 simp[Aay,Aap,hp,aI,asAddr,this]
theorem eB{f:α->List ah}{xs:List α}(hne:t≠e)(hb:aF w g t C)(ho:ak f k e w base vp xs):vp.ownBlock≠some g:=λe0=>by exact Nn
def xk:ao:=⟨0,[],false,0,0,0,0,hole,[]⟩
def b6:Array ah:=b8 xk (.slice none 0 0)
theorem mQ:∀W:af,(Acj 90).run Aag W=.ok (.agg b6) W:=(lA (P:=Aag) (t:=90) (v:=.agg b6) (n:=11) aA).1
def Wg(x:ao)(v v':ah):(b8 x v).setIfInBounds 10 v'=b8 x v':=rfl
theorem kS(w:af)(x:ao)(vd:ah)(hd:c9 w vd x.dead)(hr:κ x.dead*24<=140737488355328):Aae Aag 143 #[.agg (b8 x vd)] w λe w'=>∃v',e=.returned (.agg (b8 x v'))/\bf w' w.heap.size v' x.dead/\Up w w':=by
 have aO:=hd.length_le;obtain⟨da,dc,rfl⟩:=hd.slice;obtain⟨upa,aa,sza⟩:=cZ (ai w (.cells (b8 x (.slice da (κ x.dead) dc)) 90)) (ai (w.alloc (.cells (b8 x (.slice da (κ x.dead) dc)) 90)) (.cells b6 90)) (mI w (.cells (b8 x (.slice da (κ x.dead) dc)) 90));have B1:=an ((aF.new w 90 (b8 x (.slice da (κ x.dead) dc))).up aa);have b2:=aF.new (w.alloc (.cells (b8 x (.slice da (κ x.dead) dc)) 90)) 90 b6;rw[sza]at b2;have U1:=an (upa.trans aa);have Ah:=B1.setAt.Ah;clear sza;go_in;go_wp2_with(first
  | refine arm ?_
  | (at_builtin;refine bH pw rfl (.const (nl)) (.tmp 4) 88 rfl w.heap.size 87 _ 24 Aaq cF rfl (nl) [] rfl (ak.nil dL 3 87 ((w.alloc (.cells (b8 x (.slice da (κ x.dead) dc)) 90)).alloc (.cells b6 90)) w.heap.size) (.slice da (κ x.dead) dc) x.dead rfl (aH.up hd U1) ab ab U1.size ?_))
 intro v' w3 hown hg hb;obtain⟨na,nc,rfl⟩:=(ak.row hown pw).slice;have b3:=B1.grown hg ti;obtain⟨d3,ax,f10⟩:=cZ (b2.grown hg ti) (U1.aG hb (aE _)) (b3.free 10);have ad:=b3.setAt.Ah;obtain⟨G,b4⟩:=az (bZ b3 10 (.slice na (κ x.dead) nc)) (b3.setCell 10 (.slice na (κ x.dead) nc));rw[Wg]at b4;obtain⟨D4,O4,HN⟩:=aV (d3.grown G (λe=>aQ)) (hown.kept G (.inr (eB av b3 hown))) (ku x (.slice na (κ x.dead) nc));clear Ah;go_wp2_with(first
  | refine arm ?_
  | ((with_reducible refine cx 90 (.tmp 2) (.tmp 7) ?_);refine E7 rfl 90 (.tmp 2) (.tmp 7) rfl (w.heap.size+1) (b8 x (.slice na (κ x.dead) nc)) rfl rfl 90 _ D4 HN rfl (mC x na (κ x.dead) nc) ?_))
 obtain⟨G5,D5⟩:=az (cV (w3.setCell ⟨w.heap.size,10,none⟩ (.slice na (κ x.dead) nc)) (w.heap.size+1) (b8 x (.slice na (κ x.dead) nc))) (D4.set (b8 x (.slice na (κ x.dead) nc)));have O5:=O4.kept G5 (.inr (eB av D4 O4));have U5:=(ax.grown G (λk hk=>aQ)).grown G5 (λk hk=>aQ);exact kF (v:=.agg (b8 x (.slice na (κ x.dead) nc))) (I6 rfl _ _ _ (w.heap.size+1) 90 _ rfl D5 _ underlying90 rfl HN) rfl ⟨_,rfl,O5,U5⟩
def wk(l:List au):Option (List aj):=if (κ l)<=4000/\hn l=true then some (cX l)else none
def B2:Option (List au)->Option (List au)
 | some l=>if hn l=true then some l else none
 | none=>none
def Pc(b:List aj):Option (List au):=if (κ b)%16=0/\(κ b)<=64000 then B2 (e1 b (κ b/16))else none
theorem B3(h:hn l=true):∀x∈l,cA x=true:=λx hx=>by obtain⟨i,hi,rfl⟩:=jP hx;have:=(jo l).1 h i hi;unfold tw nK at this;simp at this;exact this.1.2
theorem I4(l:List au)(hw:∀x∈l,x.wf)(hl:κ l<=4000)(hr:hn l=true):Pc (cX l)=some l:=by unfold Pc;rw[eb,bI ⟨ae,ae⟩,show 16*κ l/16=κ l from ae,px l hw (B3 hr) _ (aE _),fF];simp[B2,hr]
def Pv(o:Option (List aj))(w:af)(e:Ab2)(w':af):Prop:=(o=none/\e=.returned (.tuple #[.slice none 0 0,.int .i64 131])/\Up w w')\/∃m u,o=some m/\e=.returned (.tuple #[u,.int .i64 0])/\Own aK 5 w' w.heap.size u m/\Up w w'
theorem aaR(n:Nat)(h:n<=4000):IntKind.i64.wrap ((n:Int)*16)=((n*16:Nat):Int):=by rw[show(n:Int)*16=((n*16:Nat):Int)from ae];exact aX _ ae
theorem KJ(w:af)(v:ah)(l:List au)(hv:c9 w v l)(aL:∀x∈l,x.wf):Aae Aag 273 #[v] w λe w'=>Pv (wk l) w e w':=by
 have R:=an (λW (up:Up w W)=>s7 W v l (aH.up hv up));have hlen:=hv.length_le;by_cases h4:κ l<=4000
 case neg=>
  have HN:=an (show wk l=none from aY (λh=>h4 h.1));obtain⟨a,cap,rfl⟩:=hv.slice;have t1:decide ((4000:Int)<(κ l:Int))=true:=ab
  have t2:decide (4000<κ l)=true:=ab
  clear h4;go_in;go_wp2;go_ret2;exact .inl ⟨HN,rfl,Up.refl _⟩
 have t1:decide ((4000:Int)<(κ l:Int))=false:=ab
 have t2:decide (4000<κ l)=false:=ab
 cases hR:hn l
 case false=>have HN:=an (show wk l=none from aY (λh=>aQ));rw[hR]at R;clear hR;obtain⟨a,cap,rfl⟩:=hv.slice;go_in;go_wp2_with fail;refine(R _ (Up.refl _)).mono ?_;rintro e w1⟨rfl,up1⟩;go_wp2;go_ret2;exact .inl ⟨HN,rfl,up1⟩
 obtain⟨HN,HW⟩:=aw (show wk l=some (cX l)from bI ⟨h4,hR⟩) aL;rw[hR]at R;clear aL;obtain⟨T,hT⟩:=bE (κ l*16);have MK:∀W:af,(Acf 30 (i6 0) (i6 (T:Int))).run Aag W=_:=λW=>kR (P:=Aag) 30 5 (.int .u8 0) 1 Aa0 eX T ae ae W;have RM:=an (λW (B:Nat) (hB:B<=W.heap.size)=>Own.room aK 5 W (.int .u8 0) B T hB ae);have wt:IntKind.i64.wrap ((κ l:Int)*16)=(T:Int):=by rw[hT];exact aaR _ h4
 generalize kg (.int .u8 0) T=zr at *;have HT:=an hT;clear hT;have HV:=an hv;obtain⟨a,cap,rfl⟩:=hv.slice;go_in;go_wp2_with fail;refine(R _ (Up.refl _)).mono ?_;rintro e w1⟨rfl,up1⟩;go_wp2;obtain⟨aA,aR⟩:=az (RM w1 w.heap.size up1.size) (up1.trans (ai w1 (.cells zr 5)));go_loopw [4,23] (λu i wr=>∃k:Nat,k<=κ l/\i=i6 k/\Own aK 5 wr w.heap.size u (cX (l.take k))/\Up w wr) (λ_ i _=>κ l-(Aau i).toNat)
 case atStart=>exact⟨0,bT _,rfl,aA,aR⟩
 case round=>
  obtain⟨k,hk,rfl,hown,upr⟩:=hrel;clear MK wt;have HO:=an hown;by_cases hlt:k<κ l
  ·obtain⟨b,off,rfl,_,_,hc⟩:=rZ (aH.up HV upr) ae;obtain⟨aM,aN,al⟩:=cZ ((hc k hlt).1) ((hc k hlt).2.1) ((hc k hlt).2.2);refine iD ?_;intro b2;have ag:=cw hlt;obtain⟨B,SN,LE⟩:=aV (λW=>n5 W l[k] (HW _ ag)) (xq l k hlt) (show(cX (l.take k)).length<=64000 by rw[eb,ez];omega);clear hc;generalize l[k]=p at *;obtain⟨pl,pb,ps⟩:=p;unfold fI at B;simp only at aM aN al B;have upa:=ai wr (.cells #[i6 pl,.int .u64 (pb:Int),.int .u32 (ps:Int)] 87);go_wp2_with fail;refine(B _).mono ?_;rintro e w3 h3;obtain⟨u3,rfl,ak,ax⟩:∃u3,e=rt #[u3,i6 0]/\Own aK 5 w3 (wr.alloc (.cells #[i6 pl,.int .u64 (pb:Int),.int .u32 (ps:Int)] 87)).heap.size u3 (bR ⟨pl,pb,ps⟩)/\Up (wr.alloc (.cells #[i6 pl,.int .u64 (pb:Int),.int .u32 (ps:Int)] 87)) w3:=by
    rcases h3 with⟨_,u,rfl,h,h'⟩|⟨h,_⟩
    ·exact⟨u,rfl,h,h'⟩
    ·rw[((B3 hR) _ ag)]at h;cases h
   have ad:=upa.trans ax;obtain⟨o3,s3,aj⟩:=cZ (HO.up ad) ((upr.trans ad).size) (j1 ⟨pl,pb,ps⟩);have PL:=an aj;have aU:=ak.cu;clear aj;generalize bR ⟨pl,pb,ps⟩=ao at *;generalize cX (l.take k)=acc at *;go_wp2_with(at_builtin;refine bu aK cy rfl (.tmp 34) (.tmp 35) 30 rfl w.heap.size 5 (.int .u8 0) 1 Aa0 eX rfl _ acc rfl o3 u3 ao rfl aU di di s3 ?_);intro v' w5 aa _ ar;go_wp2;go_roundw
   case rel=>exact⟨k+1,ae,gO,by rw[SN.out];exact aa,(upr.trans ad).aG ar (aE _)⟩
   case measure=>simp[Aau];omega
  ·obtain rfl:k=κ l:=by omega
   go_wp2;go_ret2;exact .inr ⟨cX l,_,HN,rfl,by have:=HO.out;rw[(fF (l:=l))]at this;exact this,upr⟩

structure Xe where
 a:Option Adr
 n:Nat
 c:Nat
def gu(s:Xe):ah:=.slice s.a s.n s.c
def Cd(s:Xe):(gu s).oneCell'=true:=rfl
def ra(w:af)(v:ah)(ts:List (List aj)):Prop:=∃vs:List Xe,κ vs=κ ts/\aD gu w v vs/\∀i(h1:i<κ vs)(h2:i<κ ts),a8 w (gu vs[i]) ts[i]
theorem ra.up{w w':af}{v:ah}{ts:List (List aj)}(h:ra w v ts)(hu:Up w w'):ra w' v ts:=by exact Oi
def uD(t:List aj):List aj:=aZ (κ t) 2++t
def de(ts:List (List aj)):List aj:=ts.flatMap uD
def eD(ts:List (List aj)):List aj:=aZ (κ ts) 2++de ts
def lp(ts:List (List aj)):Prop:=∀t∈ts,κ t<=65535
def tz(ts:List (List aj)):Prop:=κ ts<=65535/\lp ts
instance(ts:List (List aj)):Decidable (lp ts):=by unfold lp;infer_instance
instance(ts:List (List aj)):Decidable (tz ts):=by unfold tz;infer_instance
theorem ma(ts:List (List aj))(k:Nat)(h:k<κ ts):de (ts.take (k+1))=de (ts.take k)++(aZ ts[k].length 2++ts[k]):=by grind [hg,de,uD]
theorem l'{ts:List (List aj)}(h:lp ts):κ (de ts)<=65537*κ ts:=by
 induction ts with
 | nil=>decide
 | cons t ts ih=>have:=ih (λx hx=>h x (bt _ hx));have:=h t (df ..);grind [de,uD,bx]
theorem tH{ts:List (List aj)}(h:k<κ ts)(h1:lp (ts.take k))(h2:ts[k].length<=65535):lp (ts.take (k+1)):=by
 intro x hx;rw[hg ts k h]at hx;rcases Aa8.1 hx with hx|hx
 ·exact h1 x hx
 ·simp_all
def Ei(n:Nat):aZ n 2=[Ab6 (n%256),Ab6 (n/256%256)]:=rfl
theorem Pq(n:Nat):IntKind.u8.wrap (n:Int)=((Ab6 (n%256)).toNat:Int):=by rw[Hg,Fe];omega
theorem Pp(n:Nat):IntKind.u8.wrap ((n:Int)/256)=((Ab6 (n/256%256)).toNat:Int):=by rw[Hg,Fe];omega
theorem A5(w:af)(v:ah)(ts:List (List aj))(hv:ra w v ts)(ak:tz ts):Aae Aag 242 #[v] w λe w'=>∃v,e=.returned (.tuple #[v,.int .i64 0])/\Own aK 5 w' w.heap.size v (eD ts)/\Up w w':=by
 obtain⟨vs,aR,aC,aJ⟩:=hv;have aS:=aC.length_le;obtain⟨a,cap,rfl⟩:=aC.slice;obtain⟨len,hl⟩:=bE (κ vs);rw[<-hl]at aC aS ⊢;have aB:len=κ ts:=hl.trans aR;obtain⟨Hl,Hl2⟩:=aw hl aB;clear hl aR;have aV:¬65535<len:=by have:=ak.1;omega
 have aY:=an ak;clear ak;clear aB;go_in;go_wp2;go_loop [4,15] (λs i=>∃k:Nat,k<=len/\i=i6 k/\lp (ts.take k)/\s=i6 ((2+κ (de (ts.take k)):Nat):Int)) (λ_ i=>len-(Aau i).toNat)
 case atStart=>exact⟨0,bT _,rfl,by intro x hx;simp at hx,rfl⟩
 case round=>
  obtain⟨k,hk,rfl,aW,rfl⟩:=hrel;have aM:=l' aW;have aH:κ (ts.take k)<=k:=yV _ _;have a6:=an aW;by_cases hlt:k<len
  ·have k1:k<κ vs:=by have:=Hl.out;omega
   have k2:k<κ ts:=FZ
   obtain⟨b,off,rfl,_,hc⟩:=cg aC Hl ae;obtain⟨aO,d1⟩:=az (aJ k k1 k2) (hc k k1);obtain⟨a3,c3,aI⟩:=aO.slice;rw[aI]at d1;obtain⟨bc,ad⟩:=az aO.length_le (ma ts k k2);have ag:ts[k]∈ts:=cw k2;have aA:=λh=>tH k2 a6 h;clear hc aI;generalize ts[k]=t at *;obtain⟨aL,aF⟩:=aw ag aA;have av:κ (de (ts.take (k+1)))=κ (de (ts.take k))+(2+κ t):=by rw[ad];simp[bx]
   have aQ:=an av;clear ag aA ad av;generalize(de (ts.take k)).length=jl at *;have ht:¬65535<κ t:=by have:=aY.2 t aL;omega
   go_wp2;go_round
   case rel=>exact⟨k+1,ae,gO,aF ae,by rw[aQ.out];congr 1;omega⟩
   case measure=>simp[Aau];omega
  ·obtain rfl:k=len:=by omega
   have e1:ts.take k=ts:=dq FZ;have aW:=a6.out;rw[e1]at aW aM ⊢;clear e1;rw[<-Hl2.out]at aM;clear aH;have bb:2+κ (de ts)<=5000000000:=ae
   generalize hJ:2+κ (de ts)=J at *;have HJ:=an hJ;obtain⟨mk,w1,w2,a7⟩:=iv (kR (P:=Aag) 30 5 (.int .u8 0) 1 Aa0 eX J ae ae) (Pq k) (Pp k) (Ei k);clear hJ aM;generalize Ab6 (k%256)=ca at *;generalize Ab6 (k/256%256)=cb at *;have a':=an a7;clear a7;go_wp2_with(at_builtin;refine bu aK cy rfl (.tmp 30) (.tmp 38) 30 rfl w.heap.size 5 (.int .u8 0) 1 Aa0 eX rfl _ [] rfl ((Own.room aK 5 w (.int .u8 0) w.heap.size J (aE _) ae).up (ai _ _)) (cD (w.heap.size+1) 2 2) [ca,cb] rfl (aD.ew (w.alloc _) (w.heap.size+1) aq #[.int .u8 (ca.toNat:Int),.int .u8 (cb.toNat:Int)] 5 (0,0) [ca,cb] 2 rfl dK rfl) aq aq ((((Up.refl w).alloc _).alloc _).size) ?_);intro v' w3 ay _ aP;have ax:Up w w3:=(((Up.refl w).alloc _).alloc _).aG aP (aE _);go_wp2;have hh:[ca,cb]=aZ k 2++de (ts.take 0):=by rw[a'.out];simp[de]
   have Hh:=an hh;clear hh;go_loopw [7,42] (λx i wr=>∃j:Nat,j<=k/\i=i6 j/\Own aK 5 wr w.heap.size x (aZ k 2++de (ts.take j))/\Up w wr) (λ_ i _=>k-(Aau i).toNat)
   case atStart=>exact⟨0,bT _,rfl,by rw[<-Hh.out];exact ay,ax⟩
   case round=>
    obtain⟨j,hj,rfl,hown,upr⟩:=hrel;by_cases hlt:j<k
    ·have k1:j<κ vs:=by have:=Hl.out;omega
     have k2:j<κ ts:=FZ
     obtain⟨b,off,rfl,_,hc⟩:=cg aC Hl ae;obtain⟨aO,d1⟩:=az (aJ j k1 k2) (upr.cell (hc j k1));obtain⟨a3,c3,aI⟩:=aO.slice;rw[aI]at d1 aO;obtain⟨ad,aH,aM⟩:=cZ (ma ts j k2) (aY.2 _ (cw k2)) (l' (ts:=ts.take j) (λx hx=>aY.2 x (s9 hx)));have aU:κ (ts.take j)<=j:=yV _ _;have hlen:κ (aZ k 2++de (ts.take j))<=5000000000:=by rw[Aaf,bx];omega
     clear hc aI aU aM;generalize ts[j]=t at *;have ao:aZ k 2++de (ts.take (j+1))=((aZ k 2++de (ts.take j))++aZ (κ t) 2)++t:=by rw[ad];simp
     generalize aZ k 2++de (ts.take j)=pb at *;obtain⟨x1,x2,aX⟩:=cZ (Pq (κ t)) (Pp (κ t)) (Ei (κ t));generalize Ab6 (κ t%256)=cc at *;generalize Ab6 (κ t/256%256)=cd at *;rw[aX]at ao;have aN:=an ao;have ba:=aO.up upr;clear ad ao aX;go_wp2_with(at_builtin;refine bu aK cy rfl (.tmp 46) (.tmp 54) 30 rfl w.heap.size 5 (.int .u8 0) 1 Aa0 eX rfl _ _ rfl (hown.up (ai wr _)) (cD wr.heap.size 2 2) [cc,cd] rfl (aD.lit wr #[.int .u8 (cc.toNat:Int),.int .u8 (cd.toNat:Int)] 5 (0,0) [cc,cd] 2 rfl dK rfl) ab ab ((upr.alloc _).size) ?_);intro v4 w4 al _ au;have up4:=(upr.alloc _).aG au (aE _);have a1:=aO.up up4;have a8:κ (pb++[cc,cd])<=5000000002:=ab
     generalize aT:pb++[cc,cd]=pc at *;clear aT;go_wp2_with(at_builtin;refine bu aK cy rfl (.tmp 56) (.tmp 57) 30 rfl w.heap.size 5 (.int .u8 0) 1 Aa0 eX rfl _ _ rfl al (.slice a3 (κ t) c3) t rfl a1 ae ae up4.size ?_);intro v5 w5 aa _ ar;go_wp2;go_roundw
     case rel=>exact⟨j+1,ae,gO,by rw[aN.out];exact aa,up4.aG ar (aE _)⟩
     case measure=>simp[Aau];omega
    ·obtain rfl:j=k:=by omega
     have e1:ts.take j=ts:=dq FZ;rw[e1]at hown;have bk:aZ j 2++de ts=eD ts:=by unfold eD;rw[<-Hl2.out]
     rw[bk]at hown;clear e1 bk;go_wp2;exact zD
def qY:Nat->List aj->Option (List (List aj))
 | 0,b=>if b=[] then some [] else none
 | k+1,b=>if (κ b)<2 then none else if (κ b)-2<bn (b.take 2)then none else
  (qY k ((b.drop 2).drop (bn (b.take 2)))).map (((b.drop 2).take (bn (b.take 2)))::·)
def mF(b:List aj):Option (List (List aj)):=if (κ b)<2 then none else qY (bn (b.take 2)) (b.drop 2)
theorem KB(a b:Nat)(ha:a<9223372036854775808)(hb:b<9223372036854775808):bits .or .i64 (a:Int) (b:Int)=((a ||| b:Nat):Int):=by
 have hx:a ||| b<2 ^ 63:=Nat.or_lt_two_pow ae ae
 show IntKind.i64.wrap ((BitVec.ofInt 64 (a:Int) ||| BitVec.ofInt 64 (b:Int)).toNat:Int)=_;rw[BitVec.toNat_or,ofInt_u64 a ae,ofInt_u64 b ae];exact IntWalk.i64_in _ ae
theorem Lk(b:List aj)(h:2<=κ b):bn (b.take 2)=b[0].toNat+256*b[1].toNat:=by rw[hg b 1 ae,hg b 0 ae];rfl
theorem sC(b:List aj):bn (b.take 2)<65536:=by have h:=oh (b.take 2);have:(256:Nat) ^ (κ (b.take 2))<=256 ^ 2:=Fc ae ab;omega
theorem A'(w:af)(v:ah)(b:List aj)(hv:a8 w v b)(h2:2<=κ b):Aae Aag 238 #[v] w λe w'=>∃a c,e=.returned (.tuple #[.int .i64 (bn (b.take 2):Nat),.slice a (κ b-2) c,.bool true])/\(∀w0,a8 w0 v b->a8 w0 (.slice a (κ b-2) c) (b.drop 2))/\∃n,w'=w.drewN n:=by
 have hl:=hv.length_le;obtain⟨a,c,rfl⟩:=hv.slice;obtain⟨bb,off,rfl,_,hc⟩:=cg hv rfl ae;have d0:=hc 0 ae;have d1:=hc 1 ae;unfold aK at d0 d1;have aN:=Lk b ae;have x0:b[0].toNat<256:=b[0].toNat_lt;have x1:b[1].toNat<256:=b[1].toNat_lt;have aW:b[0].toNat ||| b[1].toNat*256=b[0].toNat+256*b[1].toNat:=IM b[0].toNat b[1].toNat 1 ae
 have aT:∀w0,a8 w0 (sq bb off (κ b) c) b->a8 w0 (bY (some ⟨bb,off,none⟩) 2 (κ b) c) (b.drop 2):=λw0 h0=>by have h:=h0.piece (lo:=2) (hi:=κ b) ae (aE _);grind
 have aa:=an aT;clear aT;have aI:=dg (P:=Aag) 30 dC dD (some ⟨bb,off,none⟩) (κ b) c 2 ae;have ag:∃a' c',bY (some ⟨bb,off,none⟩) 2 (κ b) c=.slice a' (κ b-2) c':=⟨_,_,rfl⟩;obtain⟨a',c',ag⟩:=ag;have ab:∀W,(Aav 30 (sq bb off (κ b) c) (some (i6 2)) none none).run Aag W=.ok (.slice a' (κ b-2) c') W:=aQ
 rw[ag]at aa;clear hc aI ag;simp only[Nat.add_zero]at d0;generalize b[0].toNat=y0 at *;generalize b[1].toNat=y1 at *;have e1:bits .or .i64 (y0:Int) ((y1:Int)*256)=((bn (b.take 2):Nat):Int):=by have:=KB y0 (y1*256) ae ae;grind
 generalize hN:bn (b.take 2)=N at *;have HN:=an hN;have i0:(0:Int)<(κ b:Int):=ae
 have i1:(1:Int)<(κ b:Int):=ae
 clear hN aW aN;go_in;go_wp2;go_quiet (fail);go_wp2;go_ret3;exact⟨a',c',rfl,aa,nq,rfl⟩
theorem s5:(prog.info? 30).map (λi=>(i.zero,i.size,i.bytes))=some (some (nl),1,24):=al
def eN(w:af)(base:Nat)(v:ah)(ts:List (List aj)):Prop:=∃vs:List Xe,κ vs=κ ts/\Own gu 30 w base v vs/\∀i(h1:i<κ vs)(h2:i<κ ts),Own aK 5 w base (gu vs[i]) ts[i]
theorem eN.texts{v:ah}{ts:List (List aj)}(h:eN w base v ts):ra w v ts:=by obtain⟨vs,h1,h2,h3⟩:=h;exact⟨vs,h1,h2.cu,λi a b=>(h3 i a b).cu⟩
theorem eN.up{w w':af}{v:ah}{ts:List (List aj)}(h:eN w base v ts)(hu:Up w w'):eN w' base v ts:=by exact Oi
theorem eN.nil(w:af)(base:Nat):eN w base (nl) []:=⟨[],rfl,Own.nil _ _ _ _,λi h=>absurd h (Fb i)⟩
theorem eN.snoc{w w':af}{v v':ah}{x:Xe}{ts:List (List aj)}{vs:List Xe}{t:List aj}(h1:κ vs=κ ts)(h2:Own gu 30 w base v vs)(h3:∀i(a:i<κ vs)(b:i<κ ts),Own aK 5 w base (gu vs[i]) ts[i])(hx:Own aK 5 w base (gu x) t)(hv:Own gu 30 w' base v' (vs++[x]))(hg:w.grownBy w' v.ownBlock):eN w' base v' (ts++[t]):=by
 refine⟨vs++[x],ab,hv,λi a b=>?_⟩;by_cases hi:i<κ vs
 ·rw[wH hi,wH ae];exact(h3 i hi ae).A8 h2 av hg
 ·have e1:i=κ vs:=by grind
  subst e1;rw[Ff ae,Ff ae];simp only[Nat.sub_self,h1,Abw];exact hx.A8 h2 av hg
def Rest(b:List aj)(m:Nat)(r:List aj)(acc:List (List aj)):Prop:=mF b=(qY m r).map (acc++·)
theorem Rest.short(h:Rest b (m+1) r acc)(hr:κ r<2):mF b=none:=zg
theorem Rest.ab4(h:Rest b (m+1) r acc)(h2:2<=κ r)(hr:κ r-2<bn (r.take 2)):mF b=none:=zg
theorem Rest.next(h:Rest b (m+1) r acc)(h2:2<=κ r)(hr:¬κ r-2<bn (r.take 2)):Rest b m ((r.drop 2).drop (bn (r.take 2))) (acc++[(r.drop 2).take (bn (r.take 2))]):=by unfold Rest at *;rw[h,qY,aY ae,aY hr,Option.map_map];congr 1;grind
theorem Rest.done(h:Rest b 0 r acc)(hr:r=[]):mF b=some acc:=zg
theorem Rest.more(h:Rest b 0 r acc)(hr:r≠[]):mF b=none:=zg
theorem Rest.start(h:2<=κ b):Rest b (bn (b.take 2)) (b.drop 2) []:=by unfold Rest mF;simp;omega
theorem AM(w:af)(v:ah)(b:List aj)(hv:a8 w v b)(ts:List (List aj))(hs:mF b=some ts):Aae Aag 178 #[v] w λe w'=>∃v,e=.returned (.tuple #[v,.int .i64 0])/\eN w' w.heap.size v ts/\Up w w':=by
 have NO:mF b≠none:=by rw[hs];exact nofun
 have HS:=an hs;have h2:2<=κ b:=by
  rcases jO (κ b) 2 with h|h
  ·exact absurd (by unfold mF;rw[bI h]) NO
  ·exact h
 replace NO:=an NO;clear hs;have HL:=an (A' w v b hv h2);obtain⟨a,c,rfl⟩:=hv.slice;go_in;go_wp2_with fail;refine HL.mono ?_;rintro e w1⟨a1,c1,rfl,bD,nq,rfl⟩;obtain⟨bD,av,aV⟩:=cZ (bD w hv) (Rest.start h2) (sC b);have aM:κ (b.drop 2)=κ b-2:=aq
 rw[<-aM]at bD ⊢;generalize b.drop 2=r0 at *;generalize bn (b.take 2)=many at *;clear aM;go_wp2;go_loopw [0,6,20] (λy x i wr=>∃(j:Nat)(r:List aj)(acc:List (List aj)),j<=many/\(κ acc)=j/\i=i6 j/\Rest b (many-j) r acc/\(∃a' c',y=.slice a' (κ r) c'/\a8 w (.slice a' (κ r) c') r)/\eN wr w.heap.size x acc/\Up w wr) (λ_ _ i _=>many-(Aau i).toNat)
 case atStart=>exact⟨0,r0,[],bT _,rfl,rfl,av,⟨a1,c1,rfl,bD⟩,eN.nil _ _,(Up.refl w).drewN nq⟩
 case round=>
  obtain⟨j,r,acc,hj,hacc,rfl,hrest,⟨a',c',rfl,hr⟩,hown,upr⟩:=hrel;obtain⟨wo,rfl⟩:∃wo:af,wo=wr:=⟨_,rfl⟩;have aa:=an hrest;have aO:=hr.length_le;by_cases hlt:j<many
  ·obtain⟨m,hm⟩:∃m,many-j=m+1:=⟨many-j-1,ae⟩;rw[hm]at aa;have aB:many-(j+1)=m:=by omega
   obtain⟨aY,ax⟩:=aw aB hacc;clear hm aB hacc;have aQ:2<=κ r:=by
    rcases jO (κ r) 2 with h|h
    ·exact absurd (aa.short h) NO
    ·exact h
   have HL:=an (A' wo _ r (hr.up upr) aQ);go_wp2_with fail;refine HL.mono ?_;rintro e w1⟨a2,c2,rfl,aP,aX,rfl⟩;obtain⟨aP,aN⟩:=az (aP w hr) (sC r);have up1:Up w (wo.drewN aX):=upr.drewN _;have ag:¬κ r-2<bn (r.take 2):=λh=>NO (aa.ab4 aQ h);have aA:=aa.next ae ag
   have aM:κ (r.drop 2)=κ r-2:=aq
   rw[<-aM]at aP ag ⊢;have aU:κ (r.drop 2)<=9223372036854775807:=ae
   generalize bn (r.take 2)=sz at *;generalize r.drop 2=q at *;have aF:=an aA;clear aM;have mk:=D5 (P:=Aag) 30 5 (.int .u8 0) 1 Aa0 eX sz ae ae;have aI:=dg (P:=Aag) 30 dC dD a2 (κ q) c2 sz ae;have aT:=aP.piece (lo:=sz) (hi:=κ q) ae (aE _);rw[fF]at aT;generalize ay:wo.drewN aX=w1 at *;have aS:Up wo w1:=by rw[<-ay];exact(Up.refl wo).drewN _
   clear ay;have a6:a8 (w1.alloc (.cells (kg (.int .u8 0) sz) 5)) (.slice a2 (κ q) c2) q:=aP.up (up1.alloc _);have aW:(w1.alloc (.cells (kg (.int .u8 0) sz) 5)).heap[w1.heap.size]?=some (.cells (kg (.int .u8 0) sz) 5):=heap_alloc_new w1 _;go_wp2_with(refine xi (o:=⟨some 40,_,_,_,_,_⟩) aK cy rfl (.tmp 38) (.tmp 39) 30 rfl 5 (.int .u8 0) 1 Aa0 eX w1.heap.size sz w.heap.size aW up1.size ae (.slice a2 (κ q) c2) q rfl rfl a6 ae ?_);intro w2 aL ak;have ao:=(ai w1 _).aG ak (aE _);have ad:=hown.up (aS.trans ao);obtain⟨vs,aR,hvo,ar⟩:=ad;have a7:κ vs<=65535:=by have:=ax.out;omega
   clear aW mk;have aJ:κ q-sz=κ (q.drop sz):=aq
   have aC:=an aJ;clear aJ;have aH:Own aK 5 w2 w.heap.size (gu ⟨some ⟨w1.heap.size,0,none⟩,sz,sz⟩) (q.take sz):=aL;go_wp2_with(at_builtin;refine bu gu Cd rfl (.tmp 41) (.tmp 43) 40 rfl w.heap.size 30 (nl) 24 underlying40 s5 rfl _ _ rfl (hvo.up (ai w2 _)) (cD w2.heap.size 1 1) [⟨some ⟨w1.heap.size,0,none⟩,sz,sz⟩] rfl (aD.lit w2 #[cD w1.heap.size sz sz] 30 (0,0) [_] 1 rfl dK rfl) ab ab (((up1.trans ao).alloc _).size) ?_);intro v' w4 al hg4 au;have up4:Up w w4:=((up1.trans ao).alloc _).aG au (aE _);have aZ:=eN.snoc aR (hvo.up (ai w2 _)) (λi a b=>(ar i a b).up (ai w2 _)) (aH.up (ai w2 _)) al hg4;clear ar;go_wp2;go_roundw
   case rel=>refine⟨j+1,q.drop sz,acc++[q.take sz],ae,by rw[Aaf,ax.out];rfl,gO,by rw[aY.out];exact aF,⟨_,_,by rw[<-aC.out];rfl,?_⟩,aZ,up4⟩;rw[<-aC.out];exact aT
   case measure=>simp[Aau];omega
  ·obtain rfl:j=many:=by omega
   rw[Nat.sub_self]at aa;obtain rfl:r=[]:=yS λh=>NO (aa.more h);obtain rfl:=dE ((aa.done rfl).symm.trans HS);clear hacc;go_wp2;exact zD




end Go.Proofs.YtkpjfnbbkohciaaGreat
