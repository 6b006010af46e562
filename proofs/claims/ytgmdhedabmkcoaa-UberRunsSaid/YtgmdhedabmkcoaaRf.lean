/- UberRuns: the walk. -/
import Derived.Test.YtgmdhedabmkcoaaRe
import Derived.Lib.QuietBelow
set_option linter.unusedSimpArgs false
set_option linter.unusedVariables false
namespace Go.Proofs.Ytgmdhedabmkcoaa
open Go.RowKit Go.Sort

theorem qg_loadR {P : Program} {a : Act} {C : World → Prop} {K : Act → Prop} {dst : Option Tmp} {type : TypeId} {pos : String} {after : Array Edge} {guard : Option (Nat × Bool)} (ty : TypeId) (x : Operand)
    (h : Oper.quiet P { dst := dst, op := .load ty x, type := type, pos := pos, after := after, guard := guard } a C K) : Oper.quiet P { dst := dst, op := .load ty x, type := type, pos := pos, after := after, guard := guard } a C K := h
theorem quiet_load_part {P : Program} {op : Oper} {a : Act} {C0 : World → Prop} {K : Act → Prop} (ty : TypeId) (x : Operand) (ho : op.op = .load ty x) (g off : Nat) (hx : a.eval x = .pointer (some ⟨g, off, none⟩)) (C : Array Value)
    (hc : ∀ w, C0 w → w.rangeAt g off C.toList) (d : TypeDesc) (hu : P.underlying ty = some d) (hd : d.isRow = true) (hi : (P.info? ty).map (·.size) = some C.size) (hk : K (a.put op.dst (.agg C))) : op.quiet P a C0 K := by
  refine ⟨_, fun w hw => ?_, hk⟩
  have := run_loadVar_mid (P := P) w g off ty C.toList d (hc w hw) hu hd (by simpa using hi)
  unfold Oper.quietAt execOp
  simp only [ho, hx, Instr.loadAt, Instr.sureAddr, Sem.run_bind, Sem.run_pure, Result.andThen_ok, this]
  exact ⟨rfl, rfl⟩
theorem range_cls {w : World} {g off : Nat} {l : List Value} (h : w.rangeAt g off l) : ∀ w', (∃ p : Regrown, w' = Sort.grow (redrawn w p.d) p.os) → w'.rangeAt g off l := fun _ ⟨_, hp⟩ => by
  rw [hp]
  exact fun j u hj => Up.cell (show Up w _ from below_regrown w _ _) (h j u hj)
theorem RDv.touch {w w' : World} {s p : Sl} {v : DevD} {F : Nat → Prop} (R : RDv w s p v) (T : Touch F w w') (h : ∀ b, (s.v.ownBlock = some b ∨ p.v.ownBlock = some b) → ¬ F b) : RDv w' s p v :=
  ⟨R.st.touch T (fun b hb => h b (.inl hb)), R.pe.touch T (fun b hb => h b (.inr hb)), R.max, R.pmax, R.locs, R.left, R.sn, R.pn, fun b hb => Nat.lt_of_lt_of_le (R.sb b hb) T.size, fun b hb => Nat.lt_of_lt_of_le (R.pb b hb) T.size⟩
/-- Both devices, side by side: the program's (in memory), and the document's (a value in block g). -/
structure Both (w0 w : World) (h : Hnd) (g : Nat) (s p : Sl) (o : Int) (vd vr : DevD) : Prop where
  dv : DevAt w0 w h vd
  bk : Blk w g 61 (rdC s p o vr.left vr.dead)
  rv : RDv w s p vr
  nf : ¬ Foot h g
  ap : ∀ b, (s.v.ownBlock = some b ∨ p.v.ownBlock = some b) → ¬ Foot h b ∧ b ≠ g
  ge : w0.heap.size ≤ g
section
variable {w0 w w' : World} {h : Hnd} {g : Nat} {s p : Sl} {o : Int} {vd vr vd' : DevD}
theorem Both.up (B : Both w0 w h g s p o vd vr) (U : Up w w') : Both w0 w' h g s p o vd vr := ⟨B.dv.upTo U, B.bk.up U, B.rv.up U, B.nf, B.ap, B.ge⟩
theorem Both.touch (B : Both w0 w h g s p o vd vr) (D : Dv w' h vd') (T : Touch (Foot h) w w') : Both w0 w' h g s p o vd' vr :=
  ⟨B.dv.touch D T, B.bk.touch T B.nf, B.rv.touch T (fun b hb => (B.ap b hb).1), B.nf, B.ap, B.ge⟩
theorem Both.turned (B : Both w0 w h g s p o vd vr) (T : Turned w h vd' w') : ∃ vp, Both w0 w' { h with vp := vp } g s p o vd' vr ∧ Touch (Foot h) w w' ∧ ∀ b, ¬ Foot h b → b < w.heap.size → ¬ Foot { h with vp := vp } b := by
  obtain ⟨vp, A, TT, NF⟩ := dev_turned B.dv T
  refine ⟨vp, ⟨A, B.bk.touch TT B.nf, B.rv.touch TT (fun b hb => (B.ap b hb).1), NF g B.nf B.bk.lt, fun b hb => ⟨NF b (B.ap b hb).1 ?_, (B.ap b hb).2⟩, B.ge⟩, TT, NF⟩
  rcases hb with hb | hb
  · exact B.rv.sb b hb
  · exact B.rv.pb b hb
/-- The document's device is another one now: its value is written into g. -/
theorem Both.refd (B : Both w0 w h g s p o vd vr) (U : Up w w') {s' p' : Sl} {o' : Int} {vr' : DevD} (R : RDv w' s' p' vr') (K : Kept w s p s' p') {w2 : World} (G : w'.grownBy w2 (some g)) (b2 : Blk w2 g 61 (rdC s' p' o' vr'.left vr'.dead)) : Both w0 w2 h g s' p' o' vd vr' := by
  have ap' : ∀ b, (s'.v.ownBlock = some b ∨ p'.v.ownBlock = some b) → ¬ Foot h b ∧ b ≠ g := fun b hb => by
    rcases K b hb with h1 | h1
    · exact B.ap b h1
    · refine ⟨fun hf => ?_, fun e => ?_⟩
      · have := B.dv.dv.foot_lt b hf; omega
      · have := B.bk.lt; omega
  exact ⟨dev_other (B.dv.upTo U) G B.nf B.ge, b2, R.grown G (fun b hb => (ap' b hb).2), B.nf, ap', B.ge⟩
theorem Both.same (B : Both w0 w h g s p o vd vr) {vr' : DevD} (h1 : vr'.stable = vr.stable) (h2 : vr'.pend = vr.pend) (h3 : vr'.left = vr.left) (h4 : vr'.dead = vr.dead) : Both w0 w h g s p o vd vr' :=
  ⟨B.dv, by rw [h3, h4]; exact B.bk, B.rv.same _ h1 h2 (by rw [h3]; exact B.rv.left), B.nf, B.ap, B.ge⟩
end
theorem broken_rdv {w : World} {s p : Sl} {v : DevD} (R : RDv w s p v) (n : Int) (hn : -9223372036854775808 ≤ n ∧ n ≤ 9223372036854775807) : RDv w s p (v.broken n) :=
  R.same _ rfl rfl (by show -1 ≤ (if n < -1 then (-1 : Int) else n) ∧ (if n < -1 then (-1 : Int) else n) ≤ _; split <;> omega)
theorem committed_pend {v : DevD} (u : UbD) : (v.committed u).pend.length ≤ v.pend.length + 1 := by
  have h1 := flushed_pend (v := v)
  have h2 := written_pend (v := v.flushed) (i := ((u.txg % 4 : Nat) : Int)) (s := ubV u)
  have h3 := flushed_pend (v := v.commit1 u)
  unfold DevD.committed
  split
  · split
    · split
      · unfold DevD.commit1 at h3 ⊢; omega
      · unfold DevD.commit1; omega
    · omega
  · omega
theorem ring_length2 (v : DevD) : v.ringU.length ≤ 4 := by
  unfold DevD.ringU
  rw [(sortU_perm _).length_eq]
  exact rawU_length v 4
set_option maxRecDepth 100000 in
set_option maxHeartbeats 8000000 in
theorem uberRuns_walk (w : World) (n0 : Int) (hn0 : -9223372036854775808 ≤ n0 ∧ n0 ≤ 9223372036854775807) (va : Value) (l : List UActD) (hv : IsUActs w va l) (hwf : ∀ x ∈ l, x.wf) :
    Calls Try.prog 8 #[.int .i64 n0, va] w fun e w' => e = .returned (.bool true) ∧ Up w w' := by
  obtain ⟨la, lc, rfl⟩ := hv.slice
  have HV := Lib.hid hv
  have HWF := Lib.hid hwf
  have AL := Lib.hid uberAlive_any
  clear hv hwf
  by_cases h0 : n0 < 0
  · have b1 : (n0 < 0) = True := by simp; omega
    go_enter Try.func8, Try.ntmps8
    go_wp2_with fail
    refine (AL.out _).mono ?_
    rintro e w2 ⟨rfl, U2⟩
    go_wp2_with fail
    go_ret
    exact ⟨rfl, U2⟩
  have b1 : (n0 < 0) = False := by simp; omega
  by_cases h20 : 20 < n0
  · have b2 : ((20 : Int) < n0) = True := by simp; omega
    go_enter Try.func8, Try.ntmps8
    go_wp2_with fail
    refine (AL.out _).mono ?_
    rintro e w2 ⟨rfl, U2⟩
    go_wp2_with fail
    go_ret
    exact ⟨rfl, U2⟩
  have b2 : ((20 : Int) < n0) = False := by simp; omega
  by_cases h40 : 40 < l.length
  · have b3 : ((40 : Int) < (l.length : Int)) = True := by simp; omega
    go_enter Try.func8, Try.ntmps8
    go_wp2_with fail
    refine (AL.out _).mono ?_
    rintro e w2 ⟨rfl, U2⟩
    go_wp2_with fail
    go_ret
    exact ⟨rfl, U2⟩
  have b3 : ((40 : Int) < (l.length : Int)) = False := by simp; omega
  obtain ⟨n, rfl⟩ := Int.eq_ofNat_of_zero_le (show 0 ≤ n0 by omega)
  have hn20 : n ≤ 20 := by omega
  have CL : clampN (n : Int) = n := by unfold clampN; rw [if_neg (by omega), if_pos (by omega)]; simp
  have NW := Lib.hid (fun W => dnew_any W (n : Int) (by omega))
  have NR := Lib.hid (fun W => rnew_any W n (by omega))
  rw [CL] at NW
  clear hn0 h0 h20 CL
  go_enter Try.func8, Try.ntmps8
  go_wp2_with fail
  refine (AL.out _).mono ?_
  rintro e w2 ⟨rfl, U2⟩
  have HV := Lib.hid (HV.out.up U2)
  have UW := Lib.hid U2
  clear U2 AL
  go_wp2_with fail
  refine (NW.out _).mono ?_
  rintro e w3 ⟨h, rfl, D3, U3, F3⟩
  have A3 := Lib.hid (show DevAt w2 w3 h (newD n) from ⟨D3, U3, F3⟩)
  clear D3 U3 F3 NW
  go_wp2_with fail
  refine (NR.out _).mono ?_
  rintro e w4 ⟨s0, p0, o0, rfl, R4, U4, K4⟩
  have UX := up_alloc w4 (.cells (rdC s0 p0 o0 (newD n).left (newD n).dead) 61)
  have B5 := Lib.hid (show Both w2 (w4.alloc (.cells (rdC s0 p0 o0 (newD n).left (newD n).dead) 61)) h w4.heap.size s0 p0 o0 (newD n) (newD n) from
    ⟨(A3.out.upTo U4).upTo UX, Blk.new w4 61 _, R4.up UX, fun hf => by have := (A3.out.upTo U4).dv.foot_lt _ hf; omega, fun b hb => by
      rcases K4 b hb with (h1 | h1) | h1
      · simp [nilS, Sl.v, Value.ownBlock] at h1
      · simp [nilS, Sl.v, Value.ownBlock] at h1
      · refine ⟨fun hf => by have := A3.out.dv.foot_lt _ hf; omega, fun e => ?_⟩
        rcases hb with hb | hb
        · have := R4.sb b hb; omega
        · have := R4.pb b hb; omega, (A3.out.upTo U4).up.size⟩)
  have NI5 := Lib.hid (NewInv.new n)
  have PE5 := Lib.hid (show (newD n).pend = [] from rfl)
  clear R4 U4 K4 UX NR A3
  go_wp2_with (first
    | ((with_reducible refine wg_alloc 61 ?_); refine wpList_alloc_blk rfl 61 rfl (rdC nilS nilS 0 0 false) zero_rd ?_)
    | ((with_reducible refine wg_store 61 (.tmp 6) (.tmp 36) ?_); refine ws_new w4 rfl 61 (.tmp 6) (.tmp 36) rfl (rdC s0 p0 o0 (newD n).left (newD n).dead) 61 (rdC nilS nilS 0 0 false) rfl rfl rfl (info_rd _ _ _ _ _) rfl (rdC_one _ _ _ _ _) ?_))
  obtain ⟨g, hg⟩ : ∃ g, g = w4.heap.size := ⟨_, rfl⟩
  rw [← hg] at B5 ⊢
  clear hg
  go_loopw [39] (fun i wr => ∃ (k : Nat) (vp : Value) (s p : Sl) (o : Int) (v : DevD), k ≤ l.length ∧ i = .int .i64 k ∧ Both w2 wr { h with vp := vp } g s p o v v ∧ NewInv v ∧ v.pend = []) (fun i _ => l.length - (intOf i).toNat)
  case atStart => exact ⟨0, h.vp, s0, p0, o0, newD n, Nat.zero_le _, rfl, B5.out, NI5.out, PE5.out⟩
  case round =>
    clear B5 NI5 PE5
    obtain ⟨k, vp, s, p, o, v, hk, rfl, bo, ni, pe⟩ := hrel
    have BO := Lib.hid bo
    have NI := Lib.hid ni
    have PE := Lib.hid pe
    clear bo ni pe
    obtain ⟨h6, hh6⟩ : ∃ x : Hnd, x = { h with vp := vp } := ⟨_, rfl⟩
    have HD6 := Lib.hid (show h6.d = h.d by rw [hh6])
    have HH6 := Lib.hid hh6
    rw [← hh6] at BO
    clear hh6
    by_cases hlt : k < l.length
    · have b4 : ((k : Int) < (l.length : Int)) = True := by simp; omega
      obtain ⟨sb, so, rfl, _, sg⟩ := uacts_at HV.out (by omega)
      obtain ⟨y, hy, ra0, kb0⟩ := sg k hlt
      have RA := Lib.hid (show wr.rangeAt sb (so + k * 9) (uactC y).toList from fun j u hj => BO.out.dv.up.cell (ra0 j u hj))
      have WFX := Lib.hid (HWF.out l[k] (List.getElem_mem hlt))
      rw [← hy] at kb0 WFX
      have KB := Lib.hid kb0
      clear sg ra0 kb0 hy
      have HIA := Lib.hid (info_uact y)
      have HOA := Lib.hid (uactC_one y)
      have HZA := Lib.hid (show (uactC zUAct).size = (uactC y).size from rfl)
      have UA := up_alloc wr (.cells (uactC y) 49)
      have B7 := Lib.hid (BO.out.up UA)
      have BA := Lib.hid (Blk.new wr 49 (uactC y))
      have NA := Lib.hid (show ¬ Foot h6 wr.heap.size from fun hf => by have := BO.out.dv.dv.foot_lt _ hf; omega)
      have NAg := Lib.hid (show wr.heap.size ≠ g from fun e => by have := BO.out.bk.lt; omega)
      have BK := WFX.out.2.1
      have DB := dbreak_any _ h6 v B7.out.dv.dv y.d.brk BK
      rw [HD6.out] at DB
      have DB := Lib.hid DB
      have i7 : (uactC y)[7]? = some (.int .i64 y.d.brk) := rfl
      have i8 : (uactC y)[8]? = some (.slice y.a y.n y.c) := rfl
      clear UA BO
      go_wp2_with (first
        | ((with_reducible refine wg_load 49 (.tmp 41) ?_); refine wl_part rfl 49 (.tmp 41) rfl sb (so + k * 9) rfl (uactC y) RA.out _ Try.underlying49 rfl HIA.out ?_)
        | ((with_reducible refine wg_alloc 49 ?_); refine wpList_alloc_blk rfl 49 rfl (uactC zUAct) zero_uact ?_)
        | ((with_reducible refine wg_store 49 (.tmp 8) (.tmp 42) ?_); refine ws_new wr rfl 49 (.tmp 8) (.tmp 42) rfl (uactC y) 49 (uactC zUAct) rfl rfl rfl HIA.out HZA.out HOA.out ?_))
      refine DB.out.mono ?_
      rintro e w8 ⟨rfl, D8, T8⟩
      have B8 := Lib.hid (B7.out.touch D8 T8)
      have BA := Lib.hid (BA.out.touch T8 NA.out)
      have RB := Lib.hid (rbreak_any w8 s p o v B8.out.rv y.d.brk BK)
      obtain ⟨_, q7, _⟩ := uact_at BA.out
      clear D8 T8 B7 DB RA HIA HOA HZA i7 i8
      go_wp2_with (first
        | ((with_reducible refine wg_load 61 (.tmp 6) ?_); refine wpList_load_blkG rfl 61 (.tmp 6) rfl g rfl 61 _ B8.out.bk _ Try.underlying61 rfl (info_rd _ _ _ _ _) ?_))
      refine RB.out.mono ?_
      rintro e w9 ⟨rfl, U9⟩
      have BA := Lib.hid (BA.out.up U9)
      have BG := Lib.hid (B8.out.bk.up U9)
      have U9 := Lib.hid U9
      clear RB q7
      go_wp2_with (first
        | ((with_reducible refine wg_store 61 (.tmp 6) (.tmp 50) ?_); refine wpList_store_blk rfl 61 (.tmp 6) (.tmp 50) rfl g (rdC s p o (v.broken y.d.brk).left v.dead) rfl rfl 61 _ BG.out (info_rd _ _ _ _ _) rfl (rdC_one _ _ _ _ _) ?_))
      intro w10 b10 g10
      have B10 := Lib.hid (B8.out.refd U9.out (vr' := v.broken y.d.brk) (broken_rdv (B8.out.rv.up U9.out) _ BK) (Kept.refl _ _ _) g10 b10)
      have BA := Lib.hid (BA.out.grown g10 (fun e => NAg.out (Option.some.inj e).symm))
      have NIb := Lib.hid (NI.out.same (v' := v.broken y.d.brk) rfl rfl rfl)
      have PEb := Lib.hid (show (v.broken y.d.brk).pend = [] from PE.out)
      obtain ⟨r7, _, _⟩ := uact_at BA.out
      have R7 := Lib.hid r7
      generalize v.broken y.d.brk = v1 at *
      have CMT := commit_any w10 h6 v1 B10.out.dv.dv y.d.u WFX.out.1 (by rw [PEb.out]; simp)
      rw [HD6.out] at CMT
      have CMT := Lib.hid CMT
      clear b10 g10 B8 BG U9 r7 BK NI PE
      go_wp2_with (first
        | ((with_reducible refine wg_load 27 (.tmp 52) ?_); refine wl_part rfl 27 (.tmp 52) rfl wr.heap.size 0 rfl (uC y.d.u) R7.out _ Try.underlying27 rfl (info_uV y.d.u) ?_))
      refine CMT.out.mono ?_
      rintro e w11 ⟨rfl, T11⟩
      obtain ⟨vp11, B11, TT, NFT⟩ := B10.out.turned T11
      have NA1 := Lib.hid (NFT _ NA.out BA.out.lt)
      have BA := Lib.hid (BA.out.touch TT NA.out)
      obtain ⟨h7, hh7⟩ : ∃ x : Hnd, x = { h6 with vp := vp11 } := ⟨_, rfl⟩
      have HD7 := Lib.hid (show h7.d = h.d by rw [hh7]; exact HD6.out)
      have HH7 := Lib.hid (show h7 = { h with vp := vp11 } by rw [hh7, HH6.out])
      rw [← hh7] at B11 NA1
      have B11 := Lib.hid B11
      have RC := rcommit_any w11 s p o v1 B11.out.rv y.d.u WFX.out.1 (by rw [PEb.out]; simp)
      unfold RPostE at RC
      have RC := Lib.hid RC
      obtain ⟨r7, _, _⟩ := uact_at BA.out
      have R7 := Lib.hid r7
      clear T11 TT NFT hh7 B10 CMT NA HD6 HH6 r7
      go_wp2_with (first
        | ((with_reducible refine wg_load 61 (.tmp 6) ?_); refine wpList_load_blkG rfl 61 (.tmp 6) rfl g rfl 61 _ B11.out.bk _ Try.underlying61 rfl (info_rd _ _ _ _ _) ?_)
        | ((with_reducible refine wg_load 27 (.tmp 57) ?_); refine wl_part rfl 27 (.tmp 57) rfl wr.heap.size 0 rfl (uC y.d.u) R7.out _ Try.underlying27 rfl (info_uV y.d.u) ?_))
      refine RC.out.mono ?_
      rintro e w12 ⟨s1, p1, o1, rfl, R12, U12, K12⟩
      have NI2 := Lib.hid (NIb.out.commit y.d.u)
      have PL2 := Lib.hid (show (v1.committed y.d.u).pend.length ≤ 1000000 by have := committed_pend (v := v1) y.d.u; rw [PEb.out] at this; simp at this; omega)
      generalize v1.commitE y.d.u = ce at *
      generalize v1.committed y.d.u = v2 at *
      have UX := U12.trans (up_alloc w12 (.cells (rdC s1 p1 o1 v2.left v2.dead) 61))
      have BG := Lib.hid (B11.out.bk.up UX)
      have BT := Lib.hid (Blk.new w12 61 (rdC s1 p1 o1 v2.left v2.dead))
      have BA := Lib.hid (BA.out.up UX)
      have RX := Lib.hid (R12.up (up_alloc w12 (.cells (rdC s1 p1 o1 v2.left v2.dead) 61)))
      have UX := Lib.hid UX
      have K12 := Lib.hid K12
      clear RC R12 U12 NIb PEb R7
      go_wp2_with (first
        | ((with_reducible refine wg_alloc 61 ?_); refine wpList_alloc_blk rfl 61 rfl (rdC nilS nilS 0 0 false) zero_rd ?_)
        | ((with_reducible refine wg_store 61 (.tmp 10) (.tmp 60) ?_); refine ws_new w12 rfl 61 (.tmp 10) (.tmp 60) rfl (rdC s1 p1 o1 v2.left v2.dead) 61 (rdC nilS nilS 0 0 false) rfl rfl rfl (info_rd _ _ _ _ _) rfl (rdC_one _ _ _ _ _) ?_)
        | ((with_reducible refine wg_load 61 (.tmp 10) ?_); refine wpList_load_blkG rfl 61 (.tmp 10) rfl w12.heap.size rfl 61 _ BT.out _ Try.underlying61 rfl (info_rd _ _ _ _ _) ?_)
        | ((with_reducible refine wg_store 61 (.tmp 6) (.tmp 62) ?_); refine wpList_store_blk rfl 61 (.tmp 6) (.tmp 62) rfl g (rdC s1 p1 o1 v2.left v2.dead) rfl rfl 61 _ BG.out (info_rd _ _ _ _ _) rfl (rdC_one _ _ _ _ _) ?_))
      intro w13 b13 g13
      have B13 := Lib.hid (B11.out.refd UX.out RX.out K12.out g13 b13)
      have BA := Lib.hid (BA.out.grown g13 (fun e => NAg.out (Option.some.inj e).symm))
      have KB13 := Lib.hid (KB.out.up B13.out.dv.up)
      obtain ⟨_, _, q8⟩ := uact_at (BA.out.up (up_alloc w13 (.cells #[] 4)))
      have hb1 := Lib.hid (show y.d.ks.length * 1 ≤ 140737488355328 by have := WFX.out.2.2; omega)
      clear b13 g13 B11 BG BT RX UX K12
      go_wp2_with (first
        | (at_builtin; refine wpList_fresh_ones boolCell boolCell_one rfl (.tmp 64) (.tmp 66) 47 rfl 4 (.bool false) 1 Try.underlying47 info_boolx rfl rfl _ y.d.ks rfl KB13.out hb1.out ?_))
      intro v14 w14 hown14 U14
      have B14 := Lib.hid (B13.out.up U14)
      have BA := Lib.hid (BA.out.up U14)
      have NF14 := Lib.hid (show ∀ b, v14.ownBlock = some b → ¬ Foot h7 b from fun b hb hf => by
        have h1 := (hown14.block_lt b hb).1
        have h2 := B13.out.dv.dv.foot_lt _ hf
        omega)
      have K14 := Lib.hid hown14
      have CR := dcrash_any w14 h7 v2 B14.out.dv.dv PL2.out v14 y.d.ks (fun w' T => IsOnes.touch K14.out.ones T NF14.out)
      rw [HD7.out] at CR
      have CR := Lib.hid CR
      clear hown14 U14 q8 B13 KB13 hb1
      go_wp2_with fail
      refine CR.out.mono ?_
      rintro e w15 ⟨rfl, T15⟩
      obtain ⟨vp15, B15, TT, NFT⟩ := B14.out.turned T15
      have NA2 := Lib.hid (NFT _ NA1.out BA.out.lt)
      have BA := Lib.hid (BA.out.touch TT NA1.out)
      obtain ⟨h8, hh8⟩ : ∃ x : Hnd, x = { h7 with vp := vp15 } := ⟨_, rfl⟩
      have HD8 := Lib.hid (show h8.d = h.d by rw [hh8]; exact HD7.out)
      have HH8 := Lib.hid (show h8 = { h with vp := vp15 } by rw [hh8, HH7.out])
      rw [← hh8] at B15 NA2
      have B15 := Lib.hid B15
      have RCR := rcrash_any w15 s1 p1 o1 v2 B15.out.rv (.slice y.a y.n y.c) y.d.ks (KB.out.up B15.out.dv.up)
      unfold RPost at RCR
      have RCR := Lib.hid RCR
      obtain ⟨_, _, q8⟩ := uact_at BA.out
      clear T15 TT NFT hh8 B14 CR NA1 HD7 HH7 NF14 K14
      go_wp2_with (first
        | ((with_reducible refine wg_load 61 (.tmp 6) ?_); refine wpList_load_blkG rfl 61 (.tmp 6) rfl g rfl 61 _ B15.out.bk _ Try.underlying61 rfl (info_rd _ _ _ _ _) ?_))
      refine RCR.out.mono ?_
      rintro e w16 ⟨s2, p2, o2, rfl, R16, U16, K16⟩
      have NIc := Lib.hid (NewInv.crash v2 y.d.ks)
      have PEc := Lib.hid (show (v2.crashed y.d.ks).pend = [] from rfl)
      generalize v2.crashed y.d.ks = vc at *
      have BG := Lib.hid (B15.out.bk.up U16)
      have R16 := Lib.hid R16
      have U16 := Lib.hid U16
      have K16 := Lib.hid K16
      clear RCR q8 BA NA2 NAg NI2 PL2
      go_wp2_with (first
        | ((with_reducible refine wg_store 61 (.tmp 6) (.tmp 72) ?_); refine wpList_store_blk rfl 61 (.tmp 6) (.tmp 72) rfl g (rdC s2 p2 o2 vc.left vc.dead) rfl rfl 61 _ BG.out (info_rd _ _ _ _ _) rfl (rdC_one _ _ _ _ _) ?_))
      intro w17 b17 g17
      have B17 := Lib.hid (B15.out.refd U16.out R16.out K16.out g17 b17)
      have LS := list_any w17 h8 vc B17.out.dv.dv
      rw [HD8.out] at LS
      unfold ListPost at LS
      have LS := Lib.hid LS
      clear b17 g17 B15 BG R16 U16 K16
      go_wp2_with fail
      refine LS.out.mono ?_
      rintro e w18 ⟨a1, n1, c1, rfl, R18, O18, D18, T18⟩
      have B18 := Lib.hid (B17.out.touch D18 T18)
      obtain rfl : n1 = vc.ringU.length := by obtain ⟨_, _, h⟩ := R18.slice; simp at h; exact h.2.1
      have OF1 := Lib.hid (fun b (hb : Value.ownBlock (.slice a1 vc.ringU.length c1) = some b) => show ¬ Foot h8 b from fun hf => by have h1 := O18 b hb; have h2 := B17.out.dv.dv.foot_lt b hf; omega)
      have R18 := Lib.hid R18
      have RL := rlist_any w18 s2 p2 o2 vc B18.out.rv
      rw [ringR_eq NIc.out] at RL
      have RL := Lib.hid RL
      clear LS O18 D18 T18 B17
      go_wp2_with (first
        | ((with_reducible refine wg_load 61 (.tmp 6) ?_); refine wpList_load_blkG rfl 61 (.tmp 6) rfl g rfl 61 _ B18.out.bk _ Try.underlying61 rfl (info_rd _ _ _ _ _) ?_))
      refine RL.out.mono ?_
      rintro e w19 ⟨a2, n2, c2, rfl, R19, O19, U19⟩
      obtain rfl : n2 = vc.ringU.length := by obtain ⟨_, _, h⟩ := R19.slice; simp at h; exact h.2.1
      have OF2 := Lib.hid (fun b (hb : Value.ownBlock (.slice a2 vc.ringU.length c2) = some b) => show ¬ Foot h8 b from fun hf => by have h1 := (O19 b hb).1; have h2 := B18.out.dv.dv.foot_lt b hf; omega)
      have B19 := Lib.hid (B18.out.up U19)
      have R18 := Lib.hid (R18.out.up U19)
      have R19 := Lib.hid R19
      have BS := best_any w19 h8 _ B19.out.dv.dv
      rw [HD8.out] at BS
      unfold BestPost at BS
      rw [show (vc.counts 4).bestU = vc.bestU by unfold DevD.bestU; rw [counts_ring]] at BS
      have BS := Lib.hid BS
      clear RL O19 U19 B18
      go_wp2_with fail
      refine BS.out.mono ?_
      rintro e w20 ⟨rfl, D20, T20⟩
      have B20 := B19.out.touch D20 T20
      have R18 := R18.out.touch T20 OF1.out
      have R19 := R19.out.touch T20 OF2.out
      have ml := ring_length2 vc
      have UX := up_alloc w20 (.cells (uC (vc.bestU.getD zUb)) 27)
      have B20 := Lib.hid (B20.up UX)
      have RB := rbest_any _ s2 p2 o2 vc B20.out.rv
      rw [bestR_eq NIc.out] at RB
      generalize vc.bestU.isSome = ok at *
      generalize vc.bestU.getD zUb = b0 at *
      have R18 := Lib.hid (R18.up UX)
      have R19 := Lib.hid (R19.up UX)
      have BB := Lib.hid (Blk.new w20 27 (uC b0))
      have RB := Lib.hid RB
      clear D20 T20 B19 BS UX OF1 OF2
      go_wp2_with (first
        | ((with_reducible refine wg_alloc 27 ?_); refine wpList_alloc_blk rfl 27 rfl (uC zUb) zero_ub ?_)
        | ((with_reducible refine wg_store 27 (.tmp 14) (.tmp 80) ?_); refine ws_new w20 rfl 27 (.tmp 14) (.tmp 80) rfl (uC b0) 27 (uC zUb) rfl rfl rfl (info_uV b0) rfl (uC_one b0) ?_)
        | ((with_reducible refine wg_load 61 (.tmp 6) ?_); refine wpList_load_blkG rfl 61 (.tmp 6) rfl g rfl 61 _ B20.out.bk _ Try.underlying61 rfl (info_rd _ _ _ _ _) ?_))
      refine RB.out.mono ?_
      rintro e w21 ⟨rfl, U21⟩
      have UX := U21.trans (up_alloc w21 (.cells (uC b0) 27))
      have B22 := Lib.hid (B20.out.up UX)
      have R18 := Lib.hid (R18.out.up UX)
      have R19 := Lib.hid (R19.out.up UX)
      have BB := Lib.hid (BB.out.up UX)
      have BC := Lib.hid (Blk.new w21 27 (uC b0))
      have bce : (ce != ce) = false := by simp
      have bok : (ok != ok) = false := by simp
      have EQB : ∀ W : World, (Op.equalIn 10000 27 (.agg (uC b0)) (.agg (uC b0))).run Try.prog W = .ok true W := fun W => by rw [ub_eq, decide_eq_true rfl]
      generalize vc.ringU = m at *
      clear RB U21 UX B20
      go_wp2_with (first
        | ((with_reducible refine wg_alloc 27 ?_); refine wpList_alloc_blk rfl 27 rfl (uC zUb) zero_ub ?_)
        | ((with_reducible refine wg_store 27 (.tmp 16) (.tmp 85) ?_); refine ws_new w21 rfl 27 (.tmp 16) (.tmp 85) rfl (uC b0) 27 (uC zUb) rfl rfl rfl (info_uV b0) rfl (uC_one b0) ?_)
        | ((with_reducible refine wg_loadD 98 27 (.tmp 14) ?_); refine wpList_load_blkG rfl 27 (.tmp 14) rfl w20.heap.size rfl 27 _ BB.out _ Try.underlying27 rfl (info_uV b0) ?_)
        | ((with_reducible refine wg_loadD 99 27 (.tmp 16) ?_); refine wpList_load_blkG rfl 27 (.tmp 16) rfl w21.heap.size rfl 27 _ BC.out _ Try.underlying27 rfl (info_uV b0) ?_))
      obtain ⟨w22, hw22⟩ : ∃ x, x = w21.alloc (.cells (uC b0) 27) := ⟨_, rfl⟩
      rw [← hw22] at B22 R18 R19 ⊢
      clear hw22 bce bok EQB BB BC
      go_loopw [109] (fun i wr2 => ∃ j : Nat, j ≤ m.length ∧ i = .int .i64 j ∧ Up w22 wr2) (fun i _ => m.length - (intOf i).toNat)
      case atStart => exact ⟨0, Nat.zero_le _, rfl, Up.refl _⟩
      case round =>
        obtain ⟨j, hj, rfl, ui⟩ := hrel
        have UI := Lib.hid ui
        clear ui
        by_cases hlj : j < m.length
        · have b5 : ((j : Int) < (m.length : Int)) = True := by simp; omega
          obtain ⟨g1, f1, rfl, _, rg1⟩ := ubs_at2 (R18.out.up UI.out) (by omega)
          obtain ⟨g2, f2, rfl, _, rg2⟩ := ubs_at2 (R19.out.up UI.out) (by omega)
          have X1 := Lib.hid (range_cls (rg1 j hlj))
          have X2 := Lib.hid (range_cls (rg2 j hlj))
          clear rg1 rg2
          generalize m[j] = e0 at *
          have EQE : ∀ W : World, (Op.equalIn 10000 27 (.agg (uC e0)) (.agg (uC e0))).run Try.prog W = .ok true W := fun W => by rw [ub_eq, decide_eq_true rfl]
          have IE := Lib.hid (info_uV e0)
          go_wp2_with fail
          refine wp_region_quiet_below (by kernel_rfl) (by kernel_rfl) ?_
          repeat (first
            | (go_big_quiet_want; (with_reducible refine qg_loadR 27 (.tmp 114) ?_); refine quiet_load_part 27 (.tmp 114) rfl g1 (f1 + j * 7) rfl (uC e0) X1.out _ Try.underlying27 rfl IE.out ?_; go_big_quiet_on; go_simp)
            | (go_big_quiet_want; (with_reducible refine qg_loadR 27 (.tmp 118) ?_); refine quiet_load_part 27 (.tmp 118) rfl g2 (f2 + j * 7) rfl (uC e0) X2.out _ Try.underlying27 rfl IE.out ?_; go_big_quiet_on; go_simp)
            | (go_big_quiet_step (fail)))
          refine wpQuiet_nil ?_
          intro pp
          obtain ⟨w24, hw24⟩ : ∃ x, x = grow (redrawn wr pp.d) pp.os := ⟨_, rfl⟩
          rw [← hw24]
          have U24 := Lib.hid (UI.out.trans (show Up wr w24 by rw [hw24]; exact below_regrown _ _ _))
          clear hw24 X1 X2
          go_wp2_with fail
          go_roundw
          case rel => exact ⟨j + 1, by omega, by go_num, U24.out⟩
          case measure => simp [intOf]; omega
        · obtain rfl : j = m.length := by omega
          have b5 : ((m.length : Int) < (m.length : Int)) = False := by simp
          have C4 := Lib.hid (counts_same vc 4)
          have C8 := Lib.hid (counts_same (vc.counts 4) 4)
          have BE := Lib.hid ((B22.out.up UI.out).same (vr' := (vc.counts 4).counts 4) (C8.out.1.trans C4.out.1) (C8.out.2.2.1.trans C4.out.2.2.1) (C8.out.2.2.2.2.trans C4.out.2.2.2.2) (C8.out.2.2.2.1.trans C4.out.2.2.2.1))
          have NE := Lib.hid ((NIc.out.counts 4).counts 4)
          have PEE := Lib.hid (show ((vc.counts 4).counts 4).pend = [] from (C8.out.2.2.1.trans C4.out.2.2.1).trans PEc.out)
          go_wp2_with fail
          go_roundw
          case rel => exact ⟨k + 1, vp15, s2, p2, o2, _, by omega, by go_num, by have := BE.out; rw [HH8.out] at this; exact this, NE.out, PEE.out⟩
          case measure => simp [intOf]; omega
    · have b4 : ((k : Int) < (l.length : Int)) = False := by simp; omega
      have UWR := Lib.hid (UW.out.trans BO.out.dv.up)
      go_wp2_with fail
      obtain ⟨w5, hw5⟩ : ∃ x, x = wr := ⟨_, rfl⟩
      rw [← hw5] at BO UWR ⊢
      clear hw5
      go_loopw [19] (fun i wr3 => ∃ j : Nat, j ≤ n ∧ i = .int .i64 j ∧ Up w5 wr3) (fun i _ => n - (intOf i).toNat)
      case atStart => exact ⟨0, Nat.zero_le _, rfl, Up.refl _⟩
      case round =>
        obtain ⟨j, hj, rfl, ui⟩ := hrel
        have UI := Lib.hid ui
        clear ui
        by_cases hlj : j < n
        · have b5 : ((j : Int) < (n : Int)) = True := by simp; omega
          have BJ := Lib.hid (BO.out.up UI.out)
          have CS := Lib.hid (fun d os => by
            have := dstable_any (grow (redrawn wr d) os) h6 v (BJ.out.dv.dv.up (below_regrown wr d os)) (j : Int) (by omega)
            rw [HD6.out] at this
            exact this)
          have CA := Lib.hid (fun d os => rat_any (grow (redrawn wr d) os) s p o v (BJ.out.rv.up (below_regrown wr d os)) (j : Int))
          have EQS : ∀ W : World, (Op.equalIn 10000 34 (.agg (secC (v.stableAt (j : Int)).val)) (.agg (secC (v.stableAt (j : Int)).val))).run Try.prog W = .ok true W := fun W => by rw [sec_eq _ _ (v.stableAt (j : Int)).property (v.stableAt (j : Int)).property W, decide_eq_true rfl]
          have BQ := Lib.hid BJ.out.bk
          generalize v.stableAt (j : Int) = X at *
          go_wp2_with fail
          refine wp_region_quiet_below (by kernel_rfl) (by kernel_rfl) ?_
          repeat (first
            | (go_big_quiet_want; (with_reducible refine qg_loadR 61 (.tmp 6) ?_); refine quiet_load_blk 61 (.tmp 6) rfl g rfl 61 _ BQ.out.cls _ Try.underlying61 rfl (info_rd _ _ _ _ _) ?_; go_big_quiet_on; go_simp)
            | (go_big_quiet_step (first | (go_at_call 31; exact Calls.regrown_of (CS.out _ _)) | (go_at_call 32; exact Calls.regrown_of (CA.out _ _)))))
          refine wpQuiet_nil ?_
          intro pp
          obtain ⟨w24, hw24⟩ : ∃ x, x = grow (redrawn wr pp.d) pp.os := ⟨_, rfl⟩
          rw [← hw24]
          have U24 := Lib.hid (UI.out.trans (show Up wr w24 by rw [hw24]; exact below_regrown _ _ _))
          clear hw24 CS CA
          go_wp2_with fail
          go_roundw
          case rel => exact ⟨j + 1, by omega, by go_num, U24.out⟩
          case measure => simp [intOf]; omega
        · obtain rfl : j = n := by omega
          have b5 : ((j : Int) < (j : Int)) = False := by simp
          have UE := Lib.hid (UWR.out.trans UI.out)
          go_wp2_with fail
          go_ret
          exact ⟨rfl, UE.out⟩

end Go.Proofs.Ytgmdhedabmkcoaa
