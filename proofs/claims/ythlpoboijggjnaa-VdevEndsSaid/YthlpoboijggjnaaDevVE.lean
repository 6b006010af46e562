/- VdevEnds: the walk. -/
import Derived.Test.YthlpoboijggjnaaDevV
set_option linter.unusedSimpArgs false
set_option linter.unusedVariables false
namespace Go.Proofs.Ythlpoboijggjnaa
open Go.RowKit

structure EndsInv (n : Int) (k done : Nat) (v : DevD) : Prop where
  len : v.stable.length = 8
  pend : v.pend.length ≤ k
  left : v.left = n - done
  dead : v.dead = true → (done : Int) = n
  le : done ≤ k
  max : (done : Int) ≤ n
theorem EndsInv.step {n : Int} {k done : Nat} {v v' : DevD} {e : Int} (I : EndsInv n k done v) (S : Step v v' e) (hn : 0 ≤ n) :
    (e = 0 ∧ v'.dead = false ∧ EndsInv n (k + 1) (done + 1) v') ∨ (e = 42 ∧ v'.dead = true ∧ (done : Int) = n ∧ EndsInv n (k + 1) done v') := by
  obtain ⟨h1, h2, h3⟩ := S
  have hle := I.le
  have hp := I.pend
  have hl := I.left
  have hm := I.max
  rcases h3 with ⟨he, hd, hl0, hd', hl'⟩ | ⟨he, hd, hd', hl'⟩
  · left
    rw [if_pos (by omega)] at hl'
    exact ⟨he, hd', ⟨by rw [h1]; exact I.len, by omega, by omega, (fun hh => by rw [hd'] at hh; cases hh), by omega, by omega⟩⟩
  · right
    have hdn : (done : Int) = n := by
      rcases hd with hd | hd
      · exact I.dead hd
      · omega
    exact ⟨he, hd', hdn, ⟨by rw [h1]; exact I.len, by omega, by omega, fun _ => hdn, by omega, by omega⟩⟩
theorem EndsInv.ge {n : Int} {k done : Nat} {v : DevD} (I : EndsInv n k done v) : (n < ((done : Nat) : Int)) = False := by have := I.max; simp; omega
theorem EndsInv.room {n : Int} {k done m : Nat} {v : DevD} (I : EndsInv n k done v) (hk : k ≤ m) (hm : ¬ 200 < m) : v.pend.length ≤ 1000000 := by have := I.pend; omega
theorem EndsInv.counted {n : Int} {k done : Nat} {v : DevD} (I : EndsInv n k done v) : EndsInv n k done v.counted := ⟨I.len, I.pend, I.left, I.dead, I.le, I.max⟩

set_option maxRecDepth 100000 in
set_option maxHeartbeats 16000000 in
theorem vdevEnds_walk (w : World) (n : Int) (hn : -9223372036854775808 ≤ n ∧ n ≤ 9223372036854775807) (va : Value) (l : List ActD) (hl : IsRow acells w va l) (_hr : l.length * 168 ≤ 140737488351232) (hq : ∀ x ∈ l, x.wf) :
    Calls Try.prog 6 #[.int .i64 n, va] w fun e w' => e = .returned (.bool true) ∧ Up w w' := by
  have hln := hl.length_le
  obtain ⟨pa, pc, rfl⟩ := hl.slice
  have AL := Lib.hid (alive_any w)
  have NW := Lib.hid (fun W => dnew_any W 8 (by omega))
  have HL := Lib.hid hl
  have HQ := Lib.hid hq
  clear hl hq _hr
  by_cases h200 : 200 < l.length
  · have b1 : ((200 : Int) < (l.length : Int)) = True := by simp; omega
    go_enter Try.func6, Try.ntmps6
    go_wp2_with fail
    refine AL.out.mono ?_
    rintro e w1 ⟨rfl, U1⟩
    go_wp2_with fail
    refine (NW.out w1).mono ?_
    rintro e w2 ⟨h, rfl, D2, U2, O2⟩
    go_wp2_with fail
    go_ret
    exact ⟨rfl, U1.trans U2⟩
  have b1 : ((200 : Int) < (l.length : Int)) = False := by simp; omega
  by_cases hneg : n < 0
  · go_enter Try.func6, Try.ntmps6
    go_wp2_with fail
    refine AL.out.mono ?_
    rintro e w1 ⟨rfl, U1⟩
    go_wp2_with fail
    refine (NW.out w1).mono ?_
    rintro e w2 ⟨h, rfl, D2, U2, O2⟩
    go_wp2_with fail
    go_ret
    exact ⟨rfl, U1.trans U2⟩
  have BR := Lib.hid (fun W h v (D : Dv W h v) => dbreak_any W h v D n hn)
  have OW := Lib.hid (show ∀ W h v, Dv W h v → v.stable.length = 8 → v.pend.length ≤ 1000000 → ∀ i, 0 ≤ i ∧ i ≤ 7 → ∀ s : Sec, Calls Try.prog 11 #[.pointer (some ⟨h.d, 0, none⟩), .int .i64 i, .agg (secC s.val)] W fun e w' => ∃ v' ee, e = .returned (.int .i64 ee) ∧ Turned W h v' w' ∧ Step v v' ee from fun W h v D hl hp i hi s =>
    (dwrite_any W h v D i (by omega) s hp).mono fun e w' ⟨h1, h2⟩ => ⟨_, _, h1, h2, step_write v i s (by unfold DevD.hasB; rw [hl]; simp; omega)⟩)
  have OF := Lib.hid (show ∀ W h v, Dv W h v → v.pend.length ≤ 1000000 → Calls Try.prog 13 #[.pointer (some ⟨h.d, 0, none⟩)] W fun e w' => ∃ v' ee, e = .returned (.int .i64 ee) ∧ Turned W h v' w' ∧ Step v v' ee from fun W h v D hp =>
    (dflush_any W h v D hp).mono fun e w' ⟨h1, h2⟩ => ⟨_, _, h1, h2, step_flush v⟩)
  have RD0 := Lib.hid (show ∀ W h v, Dv W h v → v.stable.length = 8 → v.dead = false → Calls Try.prog 12 #[.pointer (some ⟨h.d, 0, none⟩), .int .i64 0] W fun e w' => ∃ s : Sec, e = .returned (.tuple #[.agg (secC s.val), .int .i64 0]) ∧ Dv w' h v.counted ∧ Touch (Foot h) W w' from fun W h v D hl hd =>
    (dread_any W h v D 0 (by omega)).mono fun e w' ⟨h1, h2⟩ => ⟨v.readS 0, by rw [h1, show v.readE 0 = 0 by unfold DevD.readE DevD.hasB; rw [hl, hd]; simp], h2⟩)
  have RD1 := Lib.hid (show ∀ W h v, Dv W h v → v.stable.length = 8 → v.dead = true → Calls Try.prog 12 #[.pointer (some ⟨h.d, 0, none⟩), .int .i64 0] W fun e w' => ∃ s : Sec, e = .returned (.tuple #[.agg (secC s.val), .int .i64 42]) ∧ Dv w' h v.counted ∧ Touch (Foot h) W w' from fun W h v D hl hd =>
    (dread_any W h v D 0 (by omega)).mono fun e w' ⟨h1, h2⟩ => ⟨v.readS 0, by rw [h1, show v.readE 0 = 42 by unfold DevD.readE DevD.hasB; rw [hl, hd]; simp], h2⟩)
  have DD := Lib.hid (show ∀ W h v b, Dv W h v → v.dead = b → Calls Try.prog 18 #[.pointer (some ⟨h.d, 0, none⟩)] W fun e w' => e = .returned (.bool b) ∧ W = w' from fun W h v b D hd => by
    have := ddead_any W h v D
    rw [hd] at this
    exact this)
  have CR := Lib.hid (show ∀ W h v, Dv W h v → v.pend.length ≤ 1000000 → Calls Try.prog 14 #[.pointer (some ⟨h.d, 0, none⟩), .slice none 0 0] W fun e w' => e = .returned (.tuple #[]) ∧ Turned W h (v.crashed []) w' from fun W h v D hp => dcrash_any W h v D hp _ [] (fun _ _ => IsOnes.nil _ _))
  have WF := Lib.hid (show ∀ W h v, Dv W h v → v.stable.length = 8 → v.pend.length ≤ 1000000 → v.dead = false → v.left = -1 → Calls Try.prog 11 #[.pointer (some ⟨h.d, 0, none⟩), .int .i64 7, .agg (secC zeroS)] W fun e w' => ∃ v', e = .returned (.int .i64 0) ∧ Turned W h v' w' from fun W h v D hl hp hd hlf =>
    (dwrite_any W h v D 7 (by omega) zSec hp).mono fun e w' ⟨h1, h2⟩ => ⟨v.written 7 zSec, by rw [h1, show v.writeE 7 = 0 by unfold DevD.writeE DevD.hasB DevD.powerB; rw [hl, hd, hlf]; simp], h2⟩)
  have hn0 : 0 ≤ n := by omega
  go_enter Try.func6, Try.ntmps6
  go_wp2_with fail
  refine AL.out.mono ?_
  rintro e w1 ⟨rfl, U1⟩
  have HU1 := Lib.hid U1
  go_wp2_with fail
  refine (NW.out w1).mono ?_
  rintro e w2 ⟨h, rfl, D2, U2, O2⟩
  have A2 := Lib.hid (show DevAt w w2 h (newD (clampN 8)) from ⟨D2, HU1.out.trans U2, fun b hb => Nat.le_trans HU1.out.size (O2 b hb)⟩)
  clear D2 U2 O2 U1 NW AL
  go_wp2_with fail
  refine (BR.out _ _ _ A2.out.dv).mono ?_
  rintro e w3 ⟨rfl, D3, T3⟩
  have A3 := Lib.hid (A2.out.touch D3 T3)
  have I3 := Lib.hid (show EndsInv n 0 0 ((newD (clampN 8)).broken n) from ⟨new8.1, Nat.le_refl _, (by unfold DevD.broken; rw [if_neg (by omega)]; simp), (fun hh => by cases hh), Nat.le_refl _, by omega⟩)
  clear D3 T3 A2 HU1
  go_wp2_with fail
  go_loopw [6, 33] (fun dn i wr => ∃ (k done : Nat) (vp : Value) (v : DevD), k ≤ l.length ∧ i = .int .i64 k ∧ dn = .int .i64 done ∧ DevAt w wr { h with vp := vp } v ∧ EndsInv n k done v) (fun _ i _ => l.length - (intOf i).toNat)
  case atStart => exact ⟨0, 0, h.vp, _, Nat.zero_le _, rfl, rfl, A3.out, I3.out⟩
  case round =>
    obtain ⟨k, done, vp, v, hk, rfl, rfl, AR, IR⟩ := hrel
    have AR := Lib.hid AR
    have IR := Lib.hid IR
    have hdk : done ≤ k := IR.out.le
    have hpk : v.pend.length ≤ k := IR.out.pend
    clear A3 I3
    by_cases hlt : k < l.length
    · have b2 : ((k : Int) < (l.length : Int)) = True := by simp; omega
      obtain ⟨ab, ao, rfl, _, rg⟩ := acts_at HL.out (by omega)
      have RG := Lib.hid (show wr.rangeAt ab (ao + k * 131) (actC l[k]).toList from fun j u hj => AR.out.up.cell (rg k hlt j u hj))
      have wfx := HQ.out l[k] (List.getElem_mem hlt)
      clear rg
      generalize l[k] = x at *
      have upa := up_alloc wr (.cells (actC x) 31)
      have A5 := Lib.hid (AR.out.upTo upa)
      obtain ⟨c0, c1, r2⟩ := act_parts (Blk.new wr 31 (actC x))
      have R2 := Lib.hid r2
      have wfx1 := wfx.1
      have wfx2 := wfx.2
      clear r2 upa wfx
      by_cases hkd : x.kind = 1
      · have b3 : decide (x.kind = 1) = true := by simp [hkd]
        generalize x.kind = xk at *
        generalize x.loc = xl at *
        go_wp2_with (first
          | (refine wpList_load_part rfl 31 (.tmp 35) rfl ab (ao + k * 131) rfl (actC x) RG.out _ Try.underlying31 rfl (info_act x) ?_)
          | (refine wpList_alloc_blk rfl 31 rfl (actC zAct) zero_act ?_)
          | (refine wpList_store_new (w := wr) rfl 31 (.tmp 8) (.tmp 36) rfl wr.heap.size rfl (actC x) rfl rfl 31 (actC zAct) (info_act x) (actZ x) (actC_one x) ?_)
          | (refine wpList_load_part rfl 29 (.tmp 45) rfl wr.heap.size 2 rfl _ R2.out _ Try.underlying29 rfl (info_secV x.s) ?_))
        all_goals
          refine (OW.out _ _ _ A5.out.dv IR.out.len (IR.out.room hk h200) _ (by omega) x.s).mono ?_
          rintro e w5 ⟨v', ee, rfl, T5, S5⟩
          obtain ⟨vp5, A5', TT⟩ := A5.out.turn T5
          rcases IR.out.step S5 hn0 with ⟨rfl, hd, I5⟩ | ⟨rfl, hd, hdn, I5⟩
          · have HI := Lib.hid I5
            have HD := Lib.hid hd
            have HA := Lib.hid A5'
            have b5 : (n < (done : Int) + 1) = False := I5.ge
            have b6 : (done : Int) + 1 ≤ n := I5.max
            clear I5 hd A5' TT T5 S5
            go_wp2_with fail
            refine (RD0.out _ _ _ HA.out.dv HI.out.len HD.out).mono ?_
            rintro e w6 ⟨s6, rfl, D6, T6⟩
            have A6 := HA.out.touch D6 T6
            have HZ := Lib.hid (show (secC zeroS).size = (secC s6.val).size by rw [secV_size]; rfl)
            have A7 := Lib.hid (A6.upTo (up_alloc w6 (.cells (secC s6.val) 29)))
            have HI7 := Lib.hid HI.out.counted
            have HD7 := Lib.hid (show v'.counted.dead = false from HD.out)
            clear D6 T6 A6 HA HI HD
            go_wp2_with (first
              | (refine wpList_alloc_blk rfl 29 rfl (secC zeroS) zero_sec ?_)
              | (refine wpList_store_new (w := w6) rfl 29 (.tmp 10) (.tmp 57) rfl w6.heap.size rfl (secC s6.val) rfl rfl 29 (secC zeroS) (info_secV s6) HZ.out (secC_one _) ?_))
            refine (DD.out _ _ _ false A7.out.dv HD7.out).mono ?_
            rintro e w7 ⟨rfl, rfl⟩
            go_wp2_with fail
            refine (DD.out _ _ _ false A7.out.dv HD7.out).mono ?_
            rintro e w8 ⟨rfl, rfl⟩
            go_wp2_with fail
            refine (DD.out _ _ _ false A7.out.dv HD7.out).mono ?_
            rintro e w9 ⟨rfl, rfl⟩
            go_wp2_with fail
            refine ⟨⟨k + 1, done + 1, vp5, v'.counted, hlt, by simp, by simp, A7.out, HI7.out⟩, ?_⟩
            simp only [intOf]
            omega
          · have HI := Lib.hid I5
            have HD := Lib.hid hd
            have HA := Lib.hid A5'
            have b4 : ((done : Int) != n) = false := by simp [hdn]
            have b5 : (n < (done : Int)) = False := I5.ge
            clear hdn
            clear I5 hd A5' TT T5 S5
            go_wp2_with fail
            refine (RD1.out _ _ _ HA.out.dv HI.out.len HD.out).mono ?_
            rintro e w6 ⟨s6, rfl, D6, T6⟩
            have A6 := HA.out.touch D6 T6
            have HZ := Lib.hid (show (secC zeroS).size = (secC s6.val).size by rw [secV_size]; rfl)
            have A7 := Lib.hid (A6.upTo (up_alloc w6 (.cells (secC s6.val) 29)))
            have HI7 := Lib.hid HI.out.counted
            have HD7 := Lib.hid (show v'.counted.dead = true from HD.out)
            clear D6 T6 A6 HA HI HD
            go_wp2_with (first
              | (refine wpList_alloc_blk rfl 29 rfl (secC zeroS) zero_sec ?_)
              | (refine wpList_store_new (w := w6) rfl 29 (.tmp 10) (.tmp 57) rfl w6.heap.size rfl (secC s6.val) rfl rfl 29 (secC zeroS) (info_secV s6) HZ.out (secC_one _) ?_))
            refine (DD.out _ _ _ true A7.out.dv HD7.out).mono ?_
            rintro e w7 ⟨rfl, rfl⟩
            go_wp2_with fail
            refine (DD.out _ _ _ true A7.out.dv HD7.out).mono ?_
            rintro e w8 ⟨rfl, rfl⟩
            go_wp2_with fail
            refine (DD.out _ _ _ true A7.out.dv HD7.out).mono ?_
            rintro e w9 ⟨rfl, rfl⟩
            go_wp2_with fail
            refine ⟨⟨k + 1, done, vp5, v'.counted, hlt, by simp, by simp, A7.out, HI7.out⟩, ?_⟩
            simp only [intOf]
            omega
      · have b3 : decide (x.kind = 1) = false := by simp [hkd]
        generalize x.kind = xk at *
        generalize x.loc = xl at *
        go_wp2_with (first
          | (refine wpList_load_part rfl 31 (.tmp 35) rfl ab (ao + k * 131) rfl (actC x) RG.out _ Try.underlying31 rfl (info_act x) ?_)
          | (refine wpList_alloc_blk rfl 31 rfl (actC zAct) zero_act ?_)
          | (refine wpList_store_new (w := wr) rfl 31 (.tmp 8) (.tmp 36) rfl wr.heap.size rfl (actC x) rfl rfl 31 (actC zAct) (info_act x) (actZ x) (actC_one x) ?_))
        refine (OF.out _ _ _ A5.out.dv (IR.out.room hk h200)).mono ?_
        rintro e w5 ⟨v', ee, rfl, T5, S5⟩
        obtain ⟨vp5, A5', TT⟩ := A5.out.turn T5
        rcases IR.out.step S5 hn0 with ⟨rfl, hd, I5⟩ | ⟨rfl, hd, hdn, I5⟩
        · have HI := Lib.hid I5
          have HD := Lib.hid hd
          have HA := Lib.hid A5'
          have b5 : (n < (done : Int) + 1) = False := I5.ge
          have b6 : (done : Int) + 1 ≤ n := I5.max
          clear I5 hd A5' TT T5 S5
          go_wp2_with fail
          refine (RD0.out _ _ _ HA.out.dv HI.out.len HD.out).mono ?_
          rintro e w6 ⟨s6, rfl, D6, T6⟩
          have A6 := HA.out.touch D6 T6
          have HZ := Lib.hid (show (secC zeroS).size = (secC s6.val).size by rw [secV_size]; rfl)
          have A7 := Lib.hid (A6.upTo (up_alloc w6 (.cells (secC s6.val) 29)))
          have HI7 := Lib.hid HI.out.counted
          have HD7 := Lib.hid (show v'.counted.dead = false from HD.out)
          clear D6 T6 A6 HA HI HD
          go_wp2_with (first
            | (refine wpList_alloc_blk rfl 29 rfl (secC zeroS) zero_sec ?_)
            | (refine wpList_store_new (w := w6) rfl 29 (.tmp 10) (.tmp 57) rfl w6.heap.size rfl (secC s6.val) rfl rfl 29 (secC zeroS) (info_secV s6) HZ.out (secC_one _) ?_))
          refine (DD.out _ _ _ false A7.out.dv HD7.out).mono ?_
          rintro e w7 ⟨rfl, rfl⟩
          go_wp2_with fail
          refine (DD.out _ _ _ false A7.out.dv HD7.out).mono ?_
          rintro e w8 ⟨rfl, rfl⟩
          go_wp2_with fail
          refine (DD.out _ _ _ false A7.out.dv HD7.out).mono ?_
          rintro e w9 ⟨rfl, rfl⟩
          go_wp2_with fail
          refine ⟨⟨k + 1, done + 1, vp5, v'.counted, hlt, by simp, by simp, A7.out, HI7.out⟩, ?_⟩
          simp only [intOf]
          omega
        · have HI := Lib.hid I5
          have HD := Lib.hid hd
          have HA := Lib.hid A5'
          have b4 : ((done : Int) != n) = false := by simp [hdn]
          have b5 : (n < (done : Int)) = False := I5.ge
          clear hdn
          clear I5 hd A5' TT T5 S5
          go_wp2_with fail
          refine (RD1.out _ _ _ HA.out.dv HI.out.len HD.out).mono ?_
          rintro e w6 ⟨s6, rfl, D6, T6⟩
          have A6 := HA.out.touch D6 T6
          have HZ := Lib.hid (show (secC zeroS).size = (secC s6.val).size by rw [secV_size]; rfl)
          have A7 := Lib.hid (A6.upTo (up_alloc w6 (.cells (secC s6.val) 29)))
          have HI7 := Lib.hid HI.out.counted
          have HD7 := Lib.hid (show v'.counted.dead = true from HD.out)
          clear D6 T6 A6 HA HI HD
          go_wp2_with (first
            | (refine wpList_alloc_blk rfl 29 rfl (secC zeroS) zero_sec ?_)
            | (refine wpList_store_new (w := w6) rfl 29 (.tmp 10) (.tmp 57) rfl w6.heap.size rfl (secC s6.val) rfl rfl 29 (secC zeroS) (info_secV s6) HZ.out (secC_one _) ?_))
          refine (DD.out _ _ _ true A7.out.dv HD7.out).mono ?_
          rintro e w7 ⟨rfl, rfl⟩
          go_wp2_with fail
          refine (DD.out _ _ _ true A7.out.dv HD7.out).mono ?_
          rintro e w8 ⟨rfl, rfl⟩
          go_wp2_with fail
          refine (DD.out _ _ _ true A7.out.dv HD7.out).mono ?_
          rintro e w9 ⟨rfl, rfl⟩
          go_wp2_with fail
          refine ⟨⟨k + 1, done, vp5, v'.counted, hlt, by simp, by simp, A7.out, HI7.out⟩, ?_⟩
          simp only [intOf]
          omega
    · have b2 : ((k : Int) < (l.length : Int)) = False := by simp; omega
      go_wp2_with fail
      refine (CR.out _ _ _ AR.out.dv (IR.out.room hk h200)).mono ?_
      rintro e w5 ⟨rfl, T5⟩
      obtain ⟨vp5, A5, _⟩ := AR.out.turn T5
      have A5 := Lib.hid A5
      clear T5
      go_wp2_with fail
      refine (DD.out _ _ _ false A5.out.dv rfl).mono ?_
      rintro e w6 ⟨rfl, rfl⟩
      go_wp2_with (refine wpList_build0 rfl 29 rfl (secC zeroS) built_sec ?_)
      refine (WF.out _ _ _ A5.out.dv ((crashed_facts v []).1.trans IR.out.len) (by have := (crashed_facts v []).2.1; omega) rfl rfl).mono ?_
      rintro e w7 ⟨v7, rfl, T7⟩
      obtain ⟨vp7, A7, _⟩ := A5.out.turn T7
      have A7 := Lib.hid A7
      clear T7
      go_wp2_with fail
      go_ret
      exact ⟨rfl, A7.out.up⟩
end Go.Proofs.Ythlpoboijggjnaa
