/- UberTurns: the walk. -/
import Derived.Test.YtgmdhedabmkcoaaUbT
set_option linter.unusedSimpArgs false
set_option linter.unusedVariables false
namespace Go.Proofs.Ytgmdhedabmkcoaa
open Go.RowKit Go.Sort

theorem foot_turned {w : World} {h : Hnd} {vp : Value} {g : Nat} (hg : ¬ Foot h g) (hv : ∀ b, vp.ownBlock = some b → h.vp.ownBlock = some b ∨ w.heap.size ≤ b) (hlt : g < w.heap.size) : ¬ Foot { h with vp := vp } g := fun hf => by
  rcases Turned.foot (w' := w) hv g hf with h1 | h1
  · exact hg h1
  · omega
/-- A device of the call's own turned; a block beside it. -/
theorem dev_turned {w w1 w2 : World} {h : Hnd} {v v' : DevD} (A : DevAt w w1 h v) (T : Turned w1 h v' w2) : ∃ vp, DevAt w w2 { h with vp := vp } v' ∧ Touch (Foot h) w1 w2 ∧ ∀ g, ¬ Foot h g → g < w1.heap.size → ¬ Foot { h with vp := vp } g := by
  obtain ⟨vp, D, T2, hv⟩ := T
  refine ⟨vp, ⟨D, T2.up A.up A.own, fun b hb => ?_⟩, T2, fun g hg hlt => foot_turned hg hv hlt⟩
  rcases Turned.foot (w' := w1) hv b hb with h1 | h1
  · exact A.own b h1
  · exact Nat.le_trans A.up.size h1
theorem ones_touch {α : Type} {f : α → Value} {w0 w w' : World} {v : Value} {l : List α} {F : Nat → Prop} (h0 : IsOnes f w0 v l) (h : IsOnes f w v l) (T : Touch F w w') (hF : ∀ b, b < w0.heap.size → ¬ F b) : IsOnes f w' v l := by
  rcases h0 with h0 | ⟨b, off, cap, h1, h2, h3, h4, h5⟩
  · exact .inl h0
  · refine .inr ⟨b, off, cap, h1, h2, h3, h4, fun i hi => ?_⟩
    have hb : b < w0.heap.size := World.block_lt_of_cell? w0 _ (h5 i hi)
    rcases h with ⟨rfl, _⟩ | ⟨b', off', cap', h1', _, _, _, h5'⟩
    · simp at h2
    · rw [h1] at h1'
      simp only [Value.slice.injEq, Option.some.injEq, Addr.mk.injEq, and_true, true_and] at h1'
      obtain ⟨⟨rfl, rfl⟩, _⟩ := h1'
      exact cell_touch (h5' i hi) T (hF b hb)
theorem Ring.counts {v : DevD} {now : UbD} (R : Ring v now) (k : Nat) : Ring (v.counts k) now := by
  obtain ⟨h1, h2, h3, h4, h5⟩ := counts_same v k
  have h : ∀ i, (v.counts k).atU i = v.atU i := fun i => by
    unfold DevD.atU
    rw [(counts_read v k i).1, (counts_read v k i).2]
  exact ⟨h5.trans R.left, h4.trans R.dead, h3.trans R.pend, by rw [h1]; exact R.len, by rw [h1, h2]; exact R.new, R.right, R.wf, (h _).trans R.there, fun i hi x hx => R.rest i hi x ((h i).symm.trans hx)⟩
theorem dev_other {w w1 w2 : World} {h : Hnd} {v : DevD} {g : Nat} (A : DevAt w w1 h v) (hg : w1.grownBy w2 (some g)) (hf : ¬ Foot h g) (hge : w.heap.size ≤ g) : DevAt w w2 h v :=
  ⟨A.dv.touch (Touch.of_grown (F := fun b => b = g) hg (fun k hk => by cases hk; rfl)) (fun b hb e => hf (e ▸ hb)), A.up.grown hg (fun k hk => by cases hk; exact hge), A.own⟩
theorem pend_one {v : DevD} {now : UbD} (R : Ring v now) (n : Int) {u : UbD} (hr : rightU u = true) : ((v.broken n).committed u).pend.length ≤ 1000000 := by
  have hp : (v.broken n).pend = [] := R.pend
  rcases commit_cases hp (by exact R.len) hr with ⟨_, h2 | h2, _⟩ | ⟨_, h2, _⟩ <;> rw [h2] <;> simp
theorem info_boolx : (Try.prog.info? 4).map (fun i => (i.zero, i.size, i.bytes)) = some (some (.bool false), 1, 1) := by kernel_rfl
theorem boolCell_one (b : Bool) : (boolCell b).oneCell' = true := rfl
section
variable {P : Program} {ops : Array Oper} {Q : Exit → Act → World → Prop} {rest : List Oper} {a : Act} {w : World} {type : TypeId} {pos : String} {after : Array Edge} {guard : Option (Nat × Bool)}
/-- A gate that fixes the operation's own slot, too. -/
theorem wg_loadD (d : Tmp) (ty : TypeId) (x : Operand) (h : wpList P ops Q ({ dst := some d, op := .load ty x, type := type, pos := pos, after := after, guard := guard } :: rest) a w) :
    wpList P ops Q ({ dst := some d, op := .load ty x, type := type, pos := pos, after := after, guard := guard } :: rest) a w := h
end
set_option maxRecDepth 100000 in
set_option maxHeartbeats 16000000 in
theorem uberTurns_walk (w : World) (va : Value) (l : List UActD) (hv : IsUActs w va l) (hwf : ∀ x ∈ l, x.wf) :
    Calls Try.prog 6 #[va] w fun e w' => e = .returned (.bool true) ∧ Up w w' := by
  obtain ⟨la, lc, rfl⟩ := hv.slice
  have HV := Lib.hid hv
  have HWF := Lib.hid hwf
  have AL := Lib.hid uberAlive_any
  have NW := Lib.hid (fun W => dnew_any W 8 (by omega))
  have SM := Lib.hid (show ∀ W, Calls Try.prog 18 #[.int .u64 5] W fun e w' => e = .returned (.agg (uC (smallU 5))) ∧ Up W w' from fun W => small_any W 5)
  obtain ⟨rf1, rf2⟩ := ring_first
  have CM := Lib.hid (show ∀ W h, Dv W h (newD (clampN 8)) → Calls Try.prog 19 #[.pointer (some ⟨h.d, 0, none⟩), .agg (uC (smallU 5))] W fun e w' => e = .returned (.int .i64 0) ∧ Turned W h ((newD (clampN 8)).committed (smallU 5)) w' from fun W h D => by
    have := commit_any W h _ D (smallU 5) (small_wf 5 (by omega)) (by show 0 ≤ _; omega)
    rw [rf1] at this
    exact this)
  have RF := Lib.hid rf2
  clear hv hwf rf1 rf2
  by_cases h40 : 40 < l.length
  · have b1 : ((40 : Int) < (l.length : Int)) = True := by simp; omega
    go_enter Try.func6, Try.ntmps6
    go_wp2_with fail
    refine (AL.out _).mono ?_
    rintro e w2 ⟨rfl, U2⟩
    go_wp2_with fail
    go_ret
    exact ⟨rfl, U2⟩
  have b1 : ((40 : Int) < (l.length : Int)) = False := by simp; omega
  go_enter Try.func6, Try.ntmps6
  go_wp2_with fail
  refine (AL.out _).mono ?_
  rintro e w2 ⟨rfl, U2⟩
  have U2 := Lib.hid U2
  go_wp2_with fail
  refine (NW.out _).mono ?_
  rintro e w3 ⟨h, rfl, D3, U3, F3⟩
  have A3 := Lib.hid (show DevAt w w3 h _ from ⟨D3, U2.out.trans U3, fun b hb => Nat.le_trans U2.out.size (F3 b hb)⟩)
  clear D3 U3 F3 NW U2
  go_wp2_with fail
  refine (SM.out _).mono ?_
  rintro e w4 ⟨rfl, U4⟩
  have A4 := Lib.hid ((A3.out.upTo U4).upTo (up_alloc w4 (.cells (uC (smallU 5)) 27)))
  have B4 := Lib.hid (Blk.new w4 27 (uC (smallU 5)))
  have NF4 := Lib.hid (show ¬ Foot h w4.heap.size from fun hf => by have := (A3.out.upTo U4).dv.foot_lt _ hf; omega)
  have HI5 := Lib.hid (info_uV (smallU 5))
  have HO5 := Lib.hid (uC_one (smallU 5))
  have HZ5 := Lib.hid (show (uC zUb).size = (uC (smallU 5)).size from rfl)
  have GEW := Lib.hid (show w.heap.size ≤ w4.heap.size from (A3.out.upTo U4).up.size)
  clear A3 U4 SM
  generalize hC5 : uC (smallU 5) = C5 at *
  have HC5 := Lib.hid hC5
  clear hC5
  go_wp2_with (first
    | ((with_reducible refine wg_alloc 27 ?_); refine wpList_alloc_blk rfl 27 rfl (uC zUb) zero_ub ?_)
    | ((with_reducible refine wg_store 27 (.tmp 4) (.tmp 17) ?_); refine ws_new w4 rfl 27 (.tmp 4) (.tmp 17) rfl C5 27 (uC zUb) rfl rfl rfl HI5.out HZ5.out HO5.out ?_)
    | ((with_reducible refine wg_load 27 (.tmp 4) ?_); refine wpList_load_blkG rfl 27 (.tmp 4) rfl w4.heap.size rfl 27 _ B4.out _ Try.underlying27 rfl HI5.out ?_))
  refine (CM.out _ h A4.out.dv).mono ?_
  rintro e w5 ⟨rfl, T5⟩
  obtain ⟨vp5, A5, T5', NF5⟩ := dev_turned A4.out T5
  have A5 := Lib.hid A5
  have B5 := Lib.hid (B4.out.touch T5' NF4.out)
  have NF5 := Lib.hid (NF5 _ NF4.out B4.out.lt)
  have UD5 := Lib.hid (show Up w w5 from A5.out.up)
  clear T5 T5' A4 B4 NF4 CM HI5 HO5 HZ5
  go_wp2_with fail
  rw [← HC5.out] at B5
  obtain ⟨g4, hg4⟩ : ∃ n, n = w4.heap.size := ⟨_, rfl⟩
  rw [← hg4] at B5 NF5
  have HG4 := Lib.hid hg4
  rw [← hg4]
  clear hg4
  go_loopw [24] (fun i wr => ∃ (k : Nat) (vp : Value) (v : DevD) (now : UbD), k ≤ l.length ∧ i = .int .i64 k ∧ DevAt w wr { h with vp := vp } v ∧ Blk wr g4 27 (uC now) ∧ ¬ Foot { h with vp := vp } g4 ∧ Ring v now) (fun i _ => l.length - (intOf i).toNat)
  case atStart => exact ⟨0, vp5, _, _, Nat.zero_le _, rfl, A5.out, B5.out, NF5.out, RF.out⟩
  case round =>
    obtain ⟨k, vp, v, now, hk, rfl, ar, bn, nf, rg⟩ := hrel
    have AR := Lib.hid ar
    have BN := Lib.hid bn
    have NF := Lib.hid nf
    have RG := Lib.hid rg
    clear ar bn nf rg A5 B5 NF5 RF
    obtain ⟨h6, hh6⟩ : ∃ x : Hnd, x = { h with vp := vp } := ⟨_, rfl⟩
    have HD6 := Lib.hid (show h6.d = h.d by rw [hh6])
    have HH6 := Lib.hid hh6
    rw [← hh6] at AR NF
    clear hh6
    by_cases hlt : k < l.length
    · have b3 : ((k : Int) < (l.length : Int)) = True := by simp; omega
      obtain ⟨sb, so, rfl, _, sg⟩ := uacts_at HV.out (by omega)
      obtain ⟨y, hy, ra0, kb0⟩ := sg k hlt
      have ra : wr.rangeAt sb (so + k * 9) (uactC y).toList := fun j u hj => AR.out.up.cell (ra0 j u hj)
      have kb := kb0.up AR.out.up
      have WFX := Lib.hid (HWF.out l[k] (List.getElem_mem hlt))
      rw [← hy] at kb kb0 WFX
      have RA := Lib.hid ra
      have KB := Lib.hid kb
      have KB0 := Lib.hid kb0
      clear sg ra ra0 kb kb0 hy
      have HIA := Lib.hid (info_uact y)
      have HOA := Lib.hid (uactC_one y)
      have HZA := Lib.hid (show (uactC zUAct).size = (uactC y).size from rfl)
      have UA1 := up_alloc wr (.cells (uactC y) 49)
      have UA2 := up_alloc (wr.alloc (.cells (uactC y) 49)) (.cells (uC y.d.u) 27)
      have BA := Lib.hid ((Blk.new wr 49 (uactC y)).up UA2)
      have b7 := Blk.new (wr.alloc (.cells (uactC y) 49)) 27 (uC y.d.u)
      have sz1 : (wr.alloc (.cells (uactC y) 49)).heap.size = wr.heap.size + 1 := sz_alloc _ _
      rw [sz1] at b7
      have B7 := Lib.hid b7
      have HIU := Lib.hid (info_uV y.d.u)
      have HOU := Lib.hid (uC_one y.d.u)
      have HZU := Lib.hid (show (uC zUb).size = (uC y.d.u).size from rfl)
      have RU := Lib.hid (uact_at (Blk.new wr 49 (uactC y))).1
      have BN7 := Lib.hid (BN.out.up (UA1.trans UA2))
      have A7 := Lib.hid ((AR.out.upTo UA1).upTo UA2)
      have n0 := (uC_at (txg := now.txg) (stamp := now.stamp) (tab := now.tab) (len := now.len) (sec := now.sec) BN7.out).1
      have d0 := b7.cell 0
      have f0 := b7.free 0
      have bnd : now.txg ≤ 281474976710655 := ((rightU_iff _).1 RG.out.right).1.2
      have wt := wrap_u64_nat (now.txg + 1) (by omega)
      have NFW := Lib.hid (show ¬ Foot h6 wr.heap.size from fun hf => by have := AR.out.dv.foot_lt _ hf; omega)
      have NFX := Lib.hid (show ¬ Foot h6 (wr.heap.size + 1) from fun hf => by have := AR.out.dv.foot_lt _ hf; omega)
      have LT4 := Lib.hid (show g4 < wr.heap.size from BN.out.lt)
      have KB7 := Lib.hid (KB.out.up (UA1.trans UA2))
      have UAR := Lib.hid UA1
      have BNR := Lib.hid BN.out
      have KBR := Lib.hid KB.out
      have AR8 := Lib.hid (AR.out.upTo UA1)
      clear UA1 UA2 b7 AR BN KB
      obtain ⟨nt, hnt⟩ : ∃ n, n = now.txg := ⟨_, rfl⟩
      rw [← hnt] at n0 wt bnd
      have HNT := Lib.hid hnt
      obtain ⟨nu, hnu⟩ : ∃ x : UbD, x = { y.d.u with txg := nt + 1 } := ⟨_, rfl⟩
      have HNU := Lib.hid hnu
      have SETC := Lib.hid (show (uC y.d.u).setIfInBounds 0 (.int .u64 ((nt : Int) + 1)) = uC nu by rw [hnu]; rfl)
      have UA8 := up_alloc (wr.alloc (.cells (uactC y) 49)) (.cells ((uC y.d.u).setIfInBounds 0 (.int .u64 ((nt : Int) + 1))) 27)
      have b8 := Blk.new (wr.alloc (.cells (uactC y) 49)) 27 ((uC y.d.u).setIfInBounds 0 (.int .u64 ((nt : Int) + 1)))
      rw [sz1] at b8
      have B8 := Lib.hid (Eq.mp (congrArg (Blk ((wr.alloc (.cells (uactC y) 49)).alloc (.cells ((uC y.d.u).setIfInBounds 0 (.int .u64 ((nt : Int) + 1))) 27)) (wr.heap.size + 1) 27) SETC.out) b8)
      have BA8 := Lib.hid ((Blk.new wr 49 (uactC y)).up UA8)
      have BN8 := Lib.hid (BNR.out.up (UAR.out.trans UA8))
      have KB8 := Lib.hid (KBR.out.up (UAR.out.trans UA8))
      have A8 := Lib.hid (AR8.out.upTo UA8)
      clear UA8
      have HI8 := Lib.hid (info_uV nu)
      have RR := Lib.hid (fun W => uright_any W nu)
      clear b8 hnt hnu
      rw [show (uC y.d.u)[0]? = some (.int .u64 (y.d.u.txg : Int)) from rfl] at d0
      go_wp2_with (first
        | ((with_reducible refine wg_load 49 (.tmp 26) ?_); refine wl_part rfl 49 (.tmp 26) rfl sb (so + k * 9) rfl (uactC y) RA.out _ Try.underlying49 rfl HIA.out ?_)
        | ((with_reducible refine wg_alloc 49 ?_); refine wpList_alloc_blk rfl 49 rfl (uactC zUAct) zero_uact ?_)
        | ((with_reducible refine wg_store 49 (.tmp 6) (.tmp 27) ?_); refine ws_new wr rfl 49 (.tmp 6) (.tmp 27) rfl (uactC y) 49 (uactC zUAct) rfl rfl rfl HIA.out HZA.out HOA.out ?_)
        | ((with_reducible refine wg_load 27 (.tmp 28) ?_); refine wl_part rfl 27 (.tmp 28) rfl wr.heap.size 0 rfl (uC y.d.u) RU.out _ Try.underlying27 rfl HIU.out ?_)
        | ((with_reducible refine wg_alloc 27 ?_); refine wpList_alloc_blk rfl 27 rfl (uC zUb) zero_ub ?_)
        | ((with_reducible refine wg_store 27 (.tmp 7) (.tmp 29) ?_); refine ws_new (wr.alloc (.cells (uactC y) 49)) rfl 27 (.tmp 7) (.tmp 29) rfl (uC y.d.u) 27 (uC zUb) rfl rfl rfl HIU.out HZU.out HOU.out ?_)
        | ((with_reducible refine wg_load 27 (.tmp 7) ?_); refine wpList_load_blkG rfl 27 (.tmp 7) rfl (wr.heap.size + 1) rfl 27 _ B8.out _ Try.underlying27 rfl HI8.out ?_))
      obtain ⟨w8, hw8⟩ : ∃ x, x = (wr.alloc (.cells (uactC y) 49)).alloc (.cells ((uC y.d.u).setIfInBounds 0 (.int .u64 ((nt : Int) + 1))) 27) := ⟨_, rfl⟩
      rw [← hw8] at B8 BA8 BN8 KB8 A8 ⊢
      clear hw8 n0 d0 f0 BA B7 RU BN7 A7 KB7 RA HIA HOA HZA HIU HOU HZU sz1 SETC UAR BNR KBR AR8 wt
      obtain ⟨_, q7, q8⟩ := uact_at BA8.out
      refine (RR.out _).mono ?_
      rintro e w9 ⟨rfl, U9⟩
      have A9 := Lib.hid (A8.out.upTo U9)
      have B9 := Lib.hid (B8.out.up U9)
      have BA9 := Lib.hid (BA8.out.up U9)
      have BN9 := Lib.hid (BN8.out.up U9)
      have KB9 := Lib.hid (KB8.out.up U9)
      clear q7 q8 U9 A8 B8 BA8 BN8 KB8 RR
      obtain ⟨_, q7, q8⟩ := uact_at BA9.out
      cases hrn : rightU nu
      · clear hrn q7 q8
        go_wp2_with fail
        go_roundw
        case rel => exact ⟨k + 1, vp, v, now, by omega, by simp, by rw [← HH6.out]; exact A9.out, BN9.out, by rw [← HH6.out]; exact NF.out, RG.out⟩
        case measure => simp [intOf]; omega
      have HRN := Lib.hid hrn
      have NW := Lib.hid (show nu.wf by
        have h1 := WFX.out.1
        rw [HNU.out]
        exact ⟨by show nt + 1 < _; omega, h1.2.1, h1.2.2.1, h1.2.2.2.1, h1.2.2.2.2⟩)
      have BK := WFX.out.2.1
      have DB := dbreak_any w9 h6 v A9.out.dv y.d.brk BK
      rw [HD6.out] at DB
      have RP := Lib.hid RG.out.pend
      clear hrn
      generalize hbrk : y.d.brk = n at *
      have HBRK := Lib.hid hbrk
      clear hbrk
      go_wp2_with fail
      refine DB.mono ?_
      rintro e w10 ⟨rfl, D10, T10⟩
      have A10 := Lib.hid (A9.out.touch D10 T10)
      have B10 := Lib.hid (B9.out.touch T10 NFX.out)
      have BA10 := Lib.hid (BA9.out.touch T10 NFW.out)
      have BN10 := Lib.hid (BN9.out.touch T10 NF.out)
      have KF := Lib.hid (show ∀ b, b < w.heap.size → ¬ Foot h6 b from fun b hb hf => by
        have h1 := A9.out.own b hf
        omega)
      have KB10 := Lib.hid (ones_touch KB0.out KB9.out T10 KF.out)
      clear q7 q8 D10 T10 A9 B9 BA9 BN9 KB9 DB BK
      have CMT := commit_any w10 h6 _ A10.out.dv nu NW.out (by show v.pend.length ≤ _; rw [RP.out]; simp)
      rw [HD6.out] at CMT
      go_wp2_with (first
        | ((with_reducible refine wg_load 27 (.tmp 7) ?_); refine wpList_load_blkG rfl 27 (.tmp 7) rfl (wr.heap.size + 1) rfl 27 _ B10.out _ Try.underlying27 rfl HI8.out ?_))
      refine CMT.mono ?_
      rintro e w11 ⟨rfl, T11⟩
      obtain ⟨vp11, A11, TT, NFT⟩ := dev_turned A10.out T11
      have B11 := Lib.hid (B10.out.touch TT NFX.out)
      have BA11 := Lib.hid (BA10.out.touch TT NFW.out)
      have BN11 := Lib.hid (BN10.out.touch TT NF.out)
      have KB11 := Lib.hid (ones_touch KB0.out KB10.out TT KF.out)
      have NFa := Lib.hid (NFT _ NF.out BN10.out.lt)
      have NFb := Lib.hid (NFT _ NFX.out B10.out.lt)
      obtain ⟨h7, hh7⟩ : ∃ x : Hnd, x = { h6 with vp := vp11 } := ⟨_, rfl⟩
      have HD7 := Lib.hid (show h7.d = h.d by rw [hh7]; exact HD6.out)
      have HH7 := Lib.hid hh7
      rw [← hh7] at A11 NFa NFb
      have A11 := Lib.hid A11
      clear hh7 T11 TT NFT A10 B10 BA10 BN10 KB10 CMT NF NFX NFW KF
      obtain ⟨_, q7, q8⟩ := uact_at (BA11.out.up (up_alloc w11 (.cells #[] 4)))
      obtain ⟨_, q7', q8'⟩ := uact_at BA11.out
      have hb1 := Lib.hid (show y.d.ks.length * 1 ≤ 140737488355328 by have := WFX.out.2.2; omega)
      go_wp2_with (first
        | (at_builtin; refine wpList_fresh_ones boolCell boolCell_one rfl (.tmp 45) (.tmp 47) 47 rfl 4 (.bool false) 1 Try.underlying47 info_boolx rfl rfl _ y.d.ks rfl KB11.out hb1.out ?_))
      intro v12 w12 hown12 U12
      have A12 := A11.out.upTo U12
      have B12 := Lib.hid (B11.out.up U12)
      have BN12 := Lib.hid (BN11.out.up U12)
      have K12 := Lib.hid hown12
      have NF12 := Lib.hid (show ∀ b, v12.ownBlock = some b → ¬ Foot h7 b from fun b hb hf => by
        have h1 := (hown12.block_lt b hb).1
        have h2 := A11.out.dv.foot_lt _ hf
        omega)
      have CR := dcrash_any w12 h7 _ A12.dv (pend_one RG.out n HRN.out) v12 y.d.ks (fun w' T => IsOnes.touch K12.out.ones T NF12.out)
      rw [HD7.out] at CR
      have A12 := Lib.hid A12
      clear hown12 U12 q7 q8 q7' q8' A11 B11 BA11 BN11 KB11 hb1
      go_wp2_with fail
      refine CR.mono ?_
      rintro e w13 ⟨rfl, T13⟩
      obtain ⟨vp13, A13, TT, NFT⟩ := dev_turned A12.out T13
      have B13 := Lib.hid (B12.out.touch TT NFb.out)
      have BN13 := Lib.hid (BN12.out.touch TT NFa.out)
      have NFc := Lib.hid (NFT _ NFa.out BN12.out.lt)
      have NFd := Lib.hid (NFT _ NFb.out B12.out.lt)
      obtain ⟨h8, hh8⟩ : ∃ x : Hnd, x = { h7 with vp := vp13 } := ⟨_, rfl⟩
      have HD8 := Lib.hid (show h8.d = h.d by rw [hh8]; exact HD7.out)
      have HH8 := Lib.hid (show h8 = { h with vp := vp13 } by rw [hh8, HH7.out, HH6.out])
      rw [← hh8] at A13 NFc NFd
      have A13 := Lib.hid A13
      clear hh8 T13 TT NFT A12 B12 BN12 CR NFa NFb NF12 K12
      obtain ⟨b, hb, rb, hbc⟩ := ring_act RG.out n y.d.ks HRN.out NW.out (by rw [HNU.out, HNT.out])
      have BE := best_any w13 h8 _ A13.out.dv
      rw [HD8.out] at BE
      unfold BestPost at BE
      rw [hb] at BE
      simp only [Option.getD_some, Option.isSome_some] at BE
      have RB := Lib.hid (rb.counts 4)
      clear hb rb
      generalize hvc : ((v.broken n).committed nu).crashed y.d.ks = vc at *
      clear hvc
      generalize hce : (v.broken n).commitE nu = ce at *
      clear hce
      go_wp2_with fail
      refine BE.mono ?_
      rintro e w14 ⟨rfl, D14, T14⟩
      have A14 := Lib.hid (A13.out.touch D14 T14)
      have B14 := Lib.hid (B13.out.touch T14 NFd.out)
      have BN14 := Lib.hid (BN13.out.touch T14 NFc.out)
      clear D14 T14 BE A13 B13 BN13
      have UA := up_alloc w14 (.cells (uC b) 27)
      have A15 := Lib.hid (A14.out.upTo UA)
      have B15 := Lib.hid (B14.out.up UA)
      have BN15 := Lib.hid (BN14.out.up UA)
      have B9' := Lib.hid (Blk.new w14 27 (uC b))
      have HIb := Lib.hid (info_uV b)
      have HIn := Lib.hid (info_uV now)
      have HOb := Lib.hid (uC_one b)
      have HZb := Lib.hid (show (uC zUb).size = (uC b).size from rfl)
      have HZn := Lib.hid (show (uC now).size = (uC b).size from rfl)
      have GE4 := Lib.hid (show w.heap.size ≤ g4 by rw [HG4.out]; exact GEW.out)
      clear UA A14 B14 BN14
      rcases hbc with hbc | ⟨hbc, hce⟩
      · have EQ1 : ∀ W : World, (Op.equalIn 10000 27 (.agg (uC b)) (.agg (uC nu))).run Try.prog W = .ok true W := fun W => by rw [ub_eq, decide_eq_true hbc]
        clear hbc
        go_wp2_with (first
          | ((with_reducible refine wg_alloc 27 ?_); refine wpList_alloc_blk rfl 27 rfl (uC zUb) zero_ub ?_)
          | ((with_reducible refine wg_store 27 (.tmp 9) (.tmp 53) ?_); refine ws_new w14 rfl 27 (.tmp 9) (.tmp 53) rfl (uC b) 27 (uC zUb) rfl rfl rfl HIb.out HZb.out HOb.out ?_)
          | ((with_reducible refine wg_loadD 58 27 (.tmp 9) ?_); refine wpList_load_blkG rfl 27 (.tmp 9) rfl w14.heap.size rfl 27 _ B9'.out _ Try.underlying27 rfl HIb.out ?_)
          | ((with_reducible refine wg_loadD 59 27 (.tmp 7) ?_); refine wpList_load_blkG rfl 27 (.tmp 7) rfl (wr.heap.size + 1) rfl 27 _ B15.out _ Try.underlying27 rfl HI8.out ?_)
          | ((with_reducible refine wg_loadD 71 27 (.tmp 9) ?_); refine wpList_load_blkG rfl 27 (.tmp 9) rfl w14.heap.size rfl 27 _ B9'.out _ Try.underlying27 rfl HIb.out ?_)
          | ((with_reducible refine wg_store 27 (.tmp 4) (.tmp 71) ?_); refine wpList_store_blk rfl 27 (.tmp 4) (.tmp 71) rfl g4 (uC b) rfl rfl 27 _ BN15.out HIb.out HZn.out HOb.out ?_))
        intro w16 b16 g16
        have A16 := Lib.hid (dev_other A15.out g16 NFc.out GE4.out)
        have B16 := Lib.hid b16
        clear g16 b16
        go_wp2_with fail
        go_roundw
        case rel => exact ⟨k + 1, vp13, _, b, by omega, by simp, by rw [← HH8.out]; exact A16.out, B16.out, by rw [← HH8.out]; exact NFc.out, RB.out⟩
        case measure => simp [intOf]; omega
      · have EQ1 : ∀ W : World, (Op.equalIn 10000 27 (.agg (uC b)) (.agg (uC nu))).run Try.prog W = .ok false W := fun W => by
          rw [ub_eq, decide_eq_false]
          rw [hbc, HNU.out]
          intro e
          have := congrArg UbD.txg e
          have := HNT.out
          simp at *
          omega
        have EQ2 : ∀ W : World, (Op.equalIn 10000 27 (.agg (uC b)) (.agg (uC now))).run Try.prog W = .ok true W := fun W => by rw [ub_eq, decide_eq_true hbc]
        clear hbc
        go_wp2_with (first
          | ((with_reducible refine wg_alloc 27 ?_); refine wpList_alloc_blk rfl 27 rfl (uC zUb) zero_ub ?_)
          | ((with_reducible refine wg_store 27 (.tmp 9) (.tmp 53) ?_); refine ws_new w14 rfl 27 (.tmp 9) (.tmp 53) rfl (uC b) 27 (uC zUb) rfl rfl rfl HIb.out HZb.out HOb.out ?_)
          | ((with_reducible refine wg_loadD 58 27 (.tmp 9) ?_); refine wpList_load_blkG rfl 27 (.tmp 9) rfl w14.heap.size rfl 27 _ B9'.out _ Try.underlying27 rfl HIb.out ?_)
          | ((with_reducible refine wg_loadD 59 27 (.tmp 7) ?_); refine wpList_load_blkG rfl 27 (.tmp 7) rfl (wr.heap.size + 1) rfl 27 _ B15.out _ Try.underlying27 rfl HI8.out ?_)
          | ((with_reducible refine wg_loadD 62 27 (.tmp 9) ?_); refine wpList_load_blkG rfl 27 (.tmp 9) rfl w14.heap.size rfl 27 _ B9'.out _ Try.underlying27 rfl HIb.out ?_)
          | ((with_reducible refine wg_loadD 63 27 (.tmp 4) ?_); refine wpList_load_blkG rfl 27 (.tmp 4) rfl g4 rfl 27 _ BN15.out _ Try.underlying27 rfl HIn.out ?_)
          | ((with_reducible refine wg_loadD 71 27 (.tmp 9) ?_); refine wpList_load_blkG rfl 27 (.tmp 9) rfl w14.heap.size rfl 27 _ B9'.out _ Try.underlying27 rfl HIb.out ?_)
          | ((with_reducible refine wg_store 27 (.tmp 4) (.tmp 71) ?_); refine wpList_store_blk rfl 27 (.tmp 4) (.tmp 71) rfl g4 (uC b) rfl rfl 27 _ BN15.out HIb.out HZn.out HOb.out ?_))
        intro w16 b16 g16
        have A16 := Lib.hid (dev_other A15.out g16 NFc.out GE4.out)
        have B16 := Lib.hid b16
        clear g16 b16
        go_wp2_with fail
        go_roundw
        case rel => exact ⟨k + 1, vp13, _, b, by omega, by simp, by rw [← HH8.out]; exact A16.out, B16.out, by rw [← HH8.out]; exact NFc.out, RB.out⟩
        case measure => simp [intOf]; omega
    · have b3 : ((k : Int) < (l.length : Int)) = False := by simp; omega
      have UE := Lib.hid AR.out.up
      go_wp2_with fail
      go_ret
      exact ⟨rfl, UE.out⟩

end Go.Proofs.Ytgmdhedabmkcoaa
