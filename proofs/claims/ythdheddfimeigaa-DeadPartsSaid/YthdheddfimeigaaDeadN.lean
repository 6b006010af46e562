/- The document's Merge: the walk (lists whose bytes together stay below 2^47). -/
import Derived.Test.YthdheddfimeigaaDeadL4
import Derived.Test.YthdheddfimeigaaDeadD
set_option linter.unusedSimpArgs false
namespace Go.Proofs.Ythdheddfimeigaa
open Go.RowKit Go.Sort

def RMPost (o : Option (List PtrD)) (w : World) (e : Ending) (w' : World) : Prop :=
  (o = none ∧ e = .returned (.tuple #[.slice none 0 0, .int .i64 131]) ∧ Up w w') ∨ ∃ m u, o = some m ∧ e = .returned (.tuple #[u, .int .i64 0]) ∧ IsPtrs w' u m ∧ Up w w'

theorem room24 {x y z k : Nat} (hr : (x + y + 1) * 24 ≤ 140737488355328) (hk : k < y) (hz : z = x + k) : (z + 1) * 24 ≤ 140737488355328 := Nat.le_trans (Nat.mul_le_mul_right 24 (by omega)) hr
theorem room_b {x y : Nat} (hr : (x + y + 1) * 24 ≤ 140737488355328) : y ≤ 140737488355328 := by omega

set_option maxHeartbeats 4000000 in
theorem rmerge_any (w : World) (v v2 : Value) (a b : List PtrD) (hv : IsPtrs w v a) (hv2 : IsPtrs w v2 b) (pa : PW a) (fa : ∀ x ∈ a, fitB x = true) (pb : PW b) (fb : ∀ x ∈ b, fitB x = true) (hr : (a.length + b.length + 1) * 24 ≤ 140737488355328) :
    Calls Try.prog 22 #[v, v2] w fun e w' => RMPost (mergeF a b) w e w' := by
  have PA := Lib.hid pa
  have PB := Lib.hid pb
  have FB := Lib.hid fb
  have ST := Lib.hid (TurnInv.start (b := b) pa fa)
  have HV2 := Lib.hid hv2
  clear pa pb fa fb hv2
  obtain ⟨ab, cb, rfl⟩ := HV2.out.slice
  go_enter Try.func22, Try.ntmps22
  go_wp2_with (at_builtin; refine wpList_fresh_row pw rfl (.tmp 11) (.tmp 12) 22 rfl 29 (.agg #[.int .i64 0, .int .u64 0, .int .u32 0]) 24 Try.underlying22 info_ptr rfl w.heap.size rfl rfl v a rfl hv (by omega) ?_)
  intro z0 w7 hown up7
  have Z7 := Lib.hid (OwnRow.row hown pw)
  clear hown
  have HR := Lib.hid hr
  have hb63 := room_b hr
  clear hr
  go_wp2_with fail
  go_loopw [6, 16] (fun u i wr => ∃ (k : Nat) (z : List PtrD), k ≤ b.length ∧ i = .int .i64 k ∧ IsPtrs wr u z ∧ TurnInv a b z k ∧ Up w7 wr) (fun _ i _ => b.length - (intOf i).toNat)
  case atStart => exact ⟨0, a, Nat.zero_le _, rfl, Z7.out, ST.out, Up.refl _⟩
  case round =>
    obtain ⟨k, z, hk, rfl, hz, hti, upr⟩ := hrel
    have HTI := Lib.hid hti
    have HZ := Lib.hid hz
    clear hti hz
    by_cases hlt : k < b.length
    · obtain ⟨bb, off, rfl, _, _, hc⟩ := ptrs_at (IsRow.up HV2.out (up7.trans upr)) (by omega)
      have hc0 := (hc k hlt).1
      have hc1 := (hc k hlt).2.1
      have hc2 := (hc k hlt).2.2
      have b2 : ((k : Int) < (b.length : Int)) = True := by simp; omega
      have upa := up_alloc wr (.cells #[.int .i64 b[k].loc, .int .u64 (b[k].birth : Int), .int .u32 (b[k].sum : Int)] 29)
      have AD := Lib.hid (show ∀ W u, IsPtrs W u z → Calls Try.prog 15 #[u, .agg #[.int .i64 b[k].loc, .int .u64 (b[k].birth : Int), .int .u32 (b[k].sum : Int)]] W fun e w' => AddPost (addO z b[k]) W e w' from fun W u h => radd_any W u z h (pw_sorted.1 HTI.out.pw) b[k] (room24 HR.out hlt HTI.out.len))
      have HZZ := Lib.hid (IsRow.up HZ.out upa)
      rcases HTI.out.step PB.out FB.out hlt with ⟨h1, h2⟩ | ⟨h1, m, h2, h3⟩
      · have HNO := Lib.hid (merge_in PA.out PB.out h1 (List.getElem_mem hlt))
        rw [h2] at AD
        unfold AddPost at AD
        clear h1 h2 hc
        go_wp2_with fail
        refine (AD.out _ _ HZZ.out).mono ?_
        rintro e w8 ⟨rfl, up8⟩
        go_wp2_with fail
        go_ret2
        exact .inl ⟨HNO.out, rfl, up7.trans (upr.trans (upa.trans up8))⟩
      · rw [h2] at AD
        unfold AddPost at AD
        have HN := Lib.hid h3
        clear h1 h2 h3 hc
        go_wp2_with fail
        refine (AD.out _ _ HZZ.out).mono ?_
        rintro e w8 ⟨u8, rfl, ho8, up8⟩
        have HZ8 := Lib.hid (OwnRow.row ho8 pw)
        clear ho8
        go_wp2_with fail
        go_roundw
        case rel => exact ⟨k + 1, m, by omega, by go_num, HZ8.out, HN.out, upr.trans (upa.trans up8)⟩
        case measure => simp [intOf]; omega
    · obtain rfl : k = b.length := by omega
      have HME := Lib.hid (HTI.out.end PA.out PB.out)
      go_wp2_with fail
      go_ret2
      exact .inr ⟨z, _, HME.out, rfl, HZ.out, up7.trans upr⟩
end Go.Proofs.Ythdheddfimeigaa
