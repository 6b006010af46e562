/- A device's Read, Stable, Write: the walks. -/
import Derived.Test.YtgmdhedabmkcoaaDevL
set_option linter.unusedSimpArgs false
set_option linter.unusedVariables false
namespace Go.Proofs.Ytgmdhedabmkcoaa
open Go.RowKit

def DevD.nowAt (v : DevD) (i : Int) : Sec := if v.hasB i = true then v.newest.getD i.toNat zSec else zSec
def DevD.stableAt (v : DevD) (i : Int) : Sec := if v.hasB i = true then v.stable.getD i.toNat zSec else zSec
def DevD.readE (v : DevD) (i : Int) : Int := if v.hasB i = true then (if v.dead = true then 42 else 0) else 41
def DevD.readS (v : DevD) (i : Int) : Sec := if v.dead = true then zSec else v.nowAt i
theorem hasB_iff (v : DevD) (i : Int) : v.hasB i = true ↔ 0 ≤ i ∧ i < v.stable.length := by simp [DevD.hasB]

set_option maxRecDepth 100000 in
set_option maxHeartbeats 4000000 in
theorem dread_any (w : World) (h : Hnd) (v : DevD) (D : Dv w h v) (i : Int) (hi : -9223372036854775808 ≤ i ∧ i ≤ 9223372036854775807) :
    Calls Try.prog 51 #[.pointer (some ⟨h.d, 0, none⟩), .int .i64 i] w fun e w' => e = .returned (.tuple #[.agg (secC (v.readS i).val), .int .i64 (v.readE i)]) ∧ Dv w' h v.counted ∧ Touch (Foot h) w w' := by
  have upa := up_alloc w (.cells (secC zeroS) 34)
  have D1 := D.up upa
  have B1 := Blk.new w 34 (secC zeroS)
  have CT := Lib.hid (fun W (DD : Dv W h v) => count_any W h v DD)
  have HS := Lib.hid (fun W (DD : Dv W h v.counted) => has_any W h v.counted DD i hi)
  have HH : v.counted.hasB i = v.hasB i := rfl
  rw [HH] at HS
  have HL := Lib.hid (Touch.of_up (F := Foot h) upa)
  have HF := Lib.hid (show ¬ Foot h w.heap.size from fun hf => Nat.lt_irrefl _ (D.foot_lt _ hf))
  have HFB := Lib.hid (hasB_iff v i)
  have HD1 := Lib.hid D1
  have HB1 := Lib.hid B1
  clear D D1 B1 HH hi
  cases hb : v.hasB i
  case false =>
    rw [hb] at HS
    have E := Lib.hid (show v.readS i = zSec ∧ v.readE i = 41 by unfold DevD.readS DevD.readE DevD.nowAt; rw [hb]; simp)
    clear hb
    go_enter Try.func51, Try.ntmps51
    go_wp2_with (refine wpList_alloc_blk rfl 34 rfl (secC zeroS) zero_sec ?_)
    refine (CT.out _ HD1.out).mono ?_
    rintro e w2 ⟨rfl, D2, T2⟩
    have HD2 := Lib.hid D2
    have HT2 := Lib.hid T2
    clear D2 T2 upa
    go_wp2_with fail
    refine (HS.out _ HD2.out).mono ?_
    rintro e w3 ⟨rfl, rfl⟩
    have HB2 := Lib.hid (HB1.out.touch HT2.out HF.out)
    go_wp2_with (first
      | (refine wpList_build0 rfl 34 rfl (secC zeroS) built_sec ?_)
      | (refine wpList_store_blk rfl 34 (.tmp 4) (.tmp 12) rfl w.heap.size (secC zeroS) rfl rfl 34 (secC zeroS) HB2.out info_sec rfl (secC_one _) ?_))
    intro w4 hb4 hg4
    go_wp2_with fail
    (try simp only [Exit.inBlock, Exit.then])
    refine bodyPost_ret (v := .tuple #[.agg (secC zeroS), .int .i64 41]) (results_blk rfl _ _ _ w.heap.size 34 _ _ rfl rfl hb4 _ Try.underlying34 rfl info_sec) rfl ⟨by rw [E.out.1, E.out.2]; rfl, HD2.out.touch (Touch.of_grown (F := fun b => b = w.heap.size) hg4 (fun k hk => by cases hk; rfl)) (fun b hb e => HF.out (e ▸ hb)), ?_⟩
    refine (HL.out.trans HT2.out (fun n hn _ => hn)).trans (Touch.of_grown (F := fun b => b = w.heap.size) hg4 (fun k hk => by cases hk; rfl)) (fun n hn hlt => by omega)
  case true =>
    rw [hb] at HS
    have hio := HFB.out.1 hb
    cases hdd : v.dead
    case true =>
      have E := Lib.hid (show v.readS i = zSec ∧ v.readE i = 42 by unfold DevD.readS DevD.readE; rw [hb, hdd]; simp)
      have DD := Lib.hid (show v.counted.dead = true from hdd)
      clear hb hdd hio
      go_enter Try.func51, Try.ntmps51
      go_wp2_with (refine wpList_alloc_blk rfl 34 rfl (secC zeroS) zero_sec ?_)
      refine (CT.out _ HD1.out).mono ?_
      rintro e w2 ⟨rfl, D2, T2⟩
      have HD2 := Lib.hid D2
      have HT2 := Lib.hid T2
      clear D2 T2 upa
      go_wp2_with fail
      refine (HS.out _ HD2.out).mono ?_
      rintro e w3 ⟨rfl, rfl⟩
      have HB2 := Lib.hid (HB1.out.touch HT2.out HF.out)
      have c5 := HD2.out.cells.2.2.2.2.2
      rw [DD.out] at c5
      go_wp2_with (first
        | (refine wpList_build0 rfl 34 rfl (secC zeroS) built_sec ?_)
        | (refine wpList_store_blk rfl 34 (.tmp 4) (.tmp 17) rfl w.heap.size (secC zeroS) rfl rfl 34 (secC zeroS) HB2.out info_sec rfl (secC_one _) ?_))
      intro w4 hb4 hg4
      go_wp2_with fail
      (try simp only [Exit.inBlock, Exit.then])
      refine bodyPost_ret (v := .tuple #[.agg (secC zeroS), .int .i64 42]) (results_blk rfl _ _ _ w.heap.size 34 _ _ rfl rfl hb4 _ Try.underlying34 rfl info_sec) rfl ⟨by rw [E.out.1, E.out.2]; rfl, HD2.out.touch (Touch.of_grown (F := fun b => b = w.heap.size) hg4 (fun k hk => by cases hk; rfl)) (fun b hb e => HF.out (e ▸ hb)), ?_⟩
      refine (HL.out.trans HT2.out (fun n hn _ => hn)).trans (Touch.of_grown (F := fun b => b = w.heap.size) hg4 (fun k hk => by cases hk; rfl)) (fun n hn hlt => by omega)
    case false =>
      obtain ⟨n, rfl⟩ : ∃ n : Nat, i = n := ⟨i.toNat, by omega⟩
      have hnl : n < v.stable.length := by omega
      have hnn : n < v.newest.length := by rw [HD1.out.len]; exact hnl
      have E := Lib.hid (show v.readS n = v.newest[n] ∧ v.readE n = 0 by
        unfold DevD.readS DevD.readE DevD.nowAt
        rw [hb, hdd]
        simp only [Bool.false_eq_true, if_false, if_true, Int.toNat_natCast, and_true]
        rw [List.getD_eq_getElem?_getD, List.getElem?_eq_getElem hnn]
        rfl)
      have DD := Lib.hid (show v.counted.dead = false from hdd)
      have HNL := Lib.hid hnl
      have HNN := Lib.hid hnn
      have hm := HD1.out.max
      clear hb hdd hio
      go_enter Try.func51, Try.ntmps51
      go_wp2_with (refine wpList_alloc_blk rfl 34 rfl (secC zeroS) zero_sec ?_)
      refine (CT.out _ HD1.out).mono ?_
      rintro e w2 ⟨rfl, D2, T2⟩
      have HD2 := Lib.hid D2
      have HT2 := Lib.hid T2
      clear D2 T2 upa
      go_wp2_with fail
      refine (HS.out _ HD2.out).mono ?_
      rintro e w3 ⟨rfl, rfl⟩
      have HB2 := Lib.hid (HB1.out.touch HT2.out HF.out)
      have c5 := HD2.out.cells.2.2.2.2.2
      rw [DD.out] at c5
      have c1 := HD2.out.cells.2.1
      have c1' : w2.cell? ⟨h.d, 1, none⟩ = some (.slice (some ⟨h.g2, 0, none⟩) v.stable.length v.stable.length) := c1
      have RG := Lib.hid (show w2.rangeAt h.g2 (n * 128) (secC (v.newest[n]'HNN.out).val).toList from secs_range (l := v.newest) HD2.out.b2 n HNN.out)
      have b2 : ((n : Int) < (v.stable.length : Int)) = True := by simp; omega
      clear c1
      go_wp2_with (first
        | (refine wpList_load_part rfl 34 (.tmp 23) rfl h.g2 (n * 128) rfl _ RG.out _ Try.underlying34 rfl (info_secV _) ?_)
        | (refine wpList_store_blk rfl 34 (.tmp 4) (.tmp 24) rfl w.heap.size (secC (v.newest[n]'HNN.out).val) rfl rfl 34 (secC zeroS) HB2.out (info_secV _) (by rw [secV_size]; rfl) (secC_one _) ?_))
      intro w4 hb4 hg4
      go_wp2_with fail
      (try simp only [Exit.inBlock, Exit.then])
      refine bodyPost_ret (v := .tuple #[.agg (secC (v.newest[n]'HNN.out).val), .int .i64 0]) (results_blk rfl _ _ _ w.heap.size 34 _ _ rfl rfl hb4 _ Try.underlying34 rfl (info_secV _)) rfl ⟨by rw [E.out.1, E.out.2], HD2.out.touch (Touch.of_grown (F := fun b => b = w.heap.size) hg4 (fun k hk => by cases hk; rfl)) (fun b hb e => HF.out (e ▸ hb)), ?_⟩
      refine (HL.out.trans HT2.out (fun n hn _ => hn)).trans (Touch.of_grown (F := fun b => b = w.heap.size) hg4 (fun k hk => by cases hk; rfl)) (fun n hn hlt => by omega)
end Go.Proofs.Ytgmdhedabmkcoaa
