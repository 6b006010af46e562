/- Texts of bytes: field's length. -/
import Derived.Test.YthbfhlphclgnaaaFieldG
import Derived.Test.YthbfhlphclgnaaaFieldJ
namespace Go.Proofs.Ythbfhlphclgnaaa
open Go.RowKit

/-- The texts of bytes. -/
def splitN : Nat → List UInt8 → Option (List (List UInt8))
  | 0, b => if b = [] then some [] else none
  | k + 1, b => if b.length < 2 then none else if b.length - 2 < numVal (b.take 2) then none else
      (splitN k ((b.drop 2).drop (numVal (b.take 2)))).map (((b.drop 2).take (numVal (b.take 2))) :: ·)
def splitB (b : List UInt8) : Option (List (List UInt8)) := if b.length < 2 then none else splitN (numVal (b.take 2)) (b.drop 2)

theorem i64_or_nat (a b : Nat) (ha : a < 9223372036854775808) (hb : b < 9223372036854775808) : bits .or .i64 (a : Int) (b : Int) = ((a ||| b : Nat) : Int) := by
  have hx : a ||| b < 2 ^ 63 := Nat.or_lt_two_pow (by omega) (by omega)
  show IntKind.i64.wrap ((BitVec.ofInt 64 (a : Int) ||| BitVec.ofInt 64 (b : Int)).toNat : Int) = _
  rw [BitVec.toNat_or, ofInt_u64 a (by omega), ofInt_u64 b (by omega)]
  exact IntWalk.i64_in _ (by omega)
theorem numVal_two (b : List UInt8) (h : 2 ≤ b.length) : numVal (b.take 2) = b[0].toNat + 256 * b[1].toNat := by
  rw [take_snoc' b 1 (by omega), take_snoc' b 0 (by omega)]
  simp [numVal]
theorem numVal_two_lt (b : List UInt8) : numVal (b.take 2) < 65536 := by
  have h := numVal_lt (b.take 2)
  have : (256 : Nat) ^ (b.take 2).length ≤ 256 ^ 2 := Nat.pow_le_pow_right (by omega) (by simp; omega)
  omega

def LenPost (v : Value) (b : List UInt8) (w : World) (e : Ending) (w' : World) : Prop :=
  (b.length < 2 ∧ e = .returned (.tuple #[.int .i64 0, .slice none 0 0, .bool false]) ∧ w = w') ∨
  (2 ≤ b.length ∧ ∃ a c, e = .returned (.tuple #[.int .i64 (numVal (b.take 2) : Nat), .slice a (b.length - 2) c, .bool true]) ∧ (∀ w0, IsBytes w0 v b → IsBytes w0 (.slice a (b.length - 2) c) (b.drop 2)) ∧ ∃ n, w' = w.drewN n)

set_option maxHeartbeats 1000000 in
theorem length_any (w : World) (v : Value) (b : List UInt8) (hv : IsBytes w v b) :
    Calls Try.prog 48 #[v] w fun e w' => LenPost v b w e w' := by
  have hl := hv.length_le
  obtain ⟨a, c, rfl⟩ := hv.slice
  by_cases h2 : b.length < 2
  · go_enter Try.func48, Try.ntmps48
    go_wp2_with fail
    go_ret3
    exact .inl ⟨h2, rfl, rfl⟩
  · obtain ⟨bb, off, rfl, _, hc⟩ := get_of_ones hv rfl (by omega)
    have d0 := hc 0 (by omega)
    have d1 := hc 1 (by omega)
    unfold byteCell at d0 d1
    have hnv := numVal_two b (by omega)
    have x0 : b[0].toNat < 256 := b[0].toNat_lt
    have x1 : b[1].toNat < 256 := b[1].toNat_lt
    have hor : b[0].toNat ||| b[1].toNat * 256 = b[0].toNat + 256 * b[1].toNat := or_shift b[0].toNat b[1].toNat 1 (by omega)
    have hpc : ∀ w0, IsBytes w0 (.slice (some ⟨bb, off, none⟩) b.length c) b → IsBytes w0 (pieceOf (some ⟨bb, off, none⟩) 2 b.length c) (b.drop 2) := fun w0 h0 => by
      have h := h0.piece (lo := 2) (hi := b.length) (by omega) (Nat.le_refl _)
      rwa [List.take_length] at h
    have Hpc := Lib.hid hpc
    clear hpc
    have hsl := run_piece_from (P := Try.prog) 29 bytes_elem bytes_size (some ⟨bb, off, none⟩) b.length c 2 (by omega)
    have hpv : ∃ a' c', pieceOf (some ⟨bb, off, none⟩) 2 b.length c = .slice a' (b.length - 2) c' := ⟨_, _, rfl⟩
    obtain ⟨a', c', hpv⟩ := hpv
    have hsl2 : ∀ W, (Instr.slice 29 (.slice (some ⟨bb, off, none⟩) b.length c) (some (.int .i64 2)) none none).run Try.prog W = .ok (.slice a' (b.length - 2) c') W := by rw [← hpv]; exact hsl
    rw [hpv] at Hpc
    clear hc hsl hpv
    simp only [Nat.add_zero] at d0
    generalize b[0].toNat = y0 at *
    generalize b[1].toNat = y1 at *
    have e1 : bits .or .i64 (y0 : Int) ((y1 : Int) * 256) = ((numVal (b.take 2) : Nat) : Int) := by
      have := i64_or_nat y0 (y1 * 256) (by omega) (by omega)
      rw [hor, ← hnv] at this
      simpa using this
    generalize hN : numVal (b.take 2) = N at *
    have HN := Lib.hid hN
    have i0 : (0 : Int) < (b.length : Int) := by omega
    have i1 : (1 : Int) < (b.length : Int) := by omega
    clear hN hor hnv
    go_enter Try.func48, Try.ntmps48
    go_wp2_with fail
    go_quiet (fail)
    go_wp2_with fail
    go_ret3
    exact .inr ⟨by omega, a', c', by rw [HN.out]; rfl, Hpc.out, nq, rfl⟩

theorem info_bytes : (Try.prog.info? 29).map (fun i => (i.zero, i.size, i.bytes)) = some (some (.slice none 0 0), 1, 24) := by kernel_rfl
/-- Texts in memory of the call's own. -/
def OwnTexts (w : World) (base : Nat) (v : Value) (ts : List (List UInt8)) : Prop :=
  ∃ vs : List SlV, vs.length = ts.length ∧ Own slCell 29 w base v vs ∧ ∀ i (h1 : i < vs.length) (h2 : i < ts.length), Own byteCell 5 w base (slCell vs[i]) ts[i]
theorem OwnTexts.texts {w : World} {base : Nat} {v : Value} {ts : List (List UInt8)} (h : OwnTexts w base v ts) : IsTexts w v ts := by
  obtain ⟨vs, h1, h2, h3⟩ := h
  exact ⟨vs, h1, h2.ones, fun i a b => (h3 i a b).ones⟩
theorem OwnTexts.up {w w' : World} {base : Nat} {v : Value} {ts : List (List UInt8)} (h : OwnTexts w base v ts) (hu : Up w w') : OwnTexts w' base v ts := by
  obtain ⟨vs, h1, h2, h3⟩ := h
  exact ⟨vs, h1, h2.up hu, fun i a b => (h3 i a b).up hu⟩
theorem OwnTexts.nil (w : World) (base : Nat) : OwnTexts w base (.slice none 0 0) [] := ⟨[], rfl, Own.nil _ _ _ _, fun i h => absurd h (Nat.not_lt_zero i)⟩
/-- One more. -/
theorem OwnTexts.snoc {w w' : World} {base : Nat} {v v' : Value} {x : SlV} {ts : List (List UInt8)} {vs : List SlV} {t : List UInt8} (h1 : vs.length = ts.length) (h2 : Own slCell 29 w base v vs)
    (h3 : ∀ i (a : i < vs.length) (b : i < ts.length), Own byteCell 5 w base (slCell vs[i]) ts[i]) (hx : Own byteCell 5 w base (slCell x) t)
    (hv : Own slCell 29 w' base v' (vs ++ [x])) (hg : w.grownBy w' v.ownBlock) : OwnTexts w' base v' (ts ++ [t]) := by
  refine ⟨vs ++ [x], by simp [h1], hv, fun i a b => ?_⟩
  by_cases hi : i < vs.length
  · rw [List.getElem_append_left hi, List.getElem_append_left (by omega)]
    exact (h3 i hi (by omega)).kept_apart h2 (by decide) hg
  · have e1 : i = vs.length := by simp at a; omega
    subst e1
    rw [List.getElem_append_right (by omega), List.getElem_append_right (by omega)]
    simp only [Nat.sub_self, h1, List.getElem_cons_zero]
    exact hx.kept_apart h2 (by decide) hg

def SplitPost (b : List UInt8) (w : World) (e : Ending) (w' : World) : Prop :=
  (∃ ts, splitB b = some ts ∧ ∃ v, e = .returned (.tuple #[v, .int .i64 0]) ∧ OwnTexts w' w.heap.size v ts ∧ Up w w') ∨
  (splitB b = none ∧ e = .returned (.tuple #[.slice none 0 0, .int .i64 21]) ∧ Up w w')

/-- What is still to be split. -/
def Rest (b : List UInt8) (m : Nat) (r : List UInt8) (acc : List (List UInt8)) : Prop := splitB b = (splitN m r).map (acc ++ ·)
theorem Rest.short {b r : List UInt8} {m : Nat} {acc : List (List UInt8)} (h : Rest b (m + 1) r acc) (hr : r.length < 2) : splitB b = none := by
  unfold Rest at h; rw [h, splitN, if_pos hr]; rfl
theorem Rest.long {b r : List UInt8} {m : Nat} {acc : List (List UInt8)} (h : Rest b (m + 1) r acc) (h2 : 2 ≤ r.length) (hr : r.length - 2 < numVal (r.take 2)) : splitB b = none := by
  unfold Rest at h; rw [h, splitN, if_neg (by omega), if_pos hr]; rfl
theorem Rest.next {b r : List UInt8} {m : Nat} {acc : List (List UInt8)} (h : Rest b (m + 1) r acc) (h2 : 2 ≤ r.length) (hr : ¬ r.length - 2 < numVal (r.take 2)) :
    Rest b m ((r.drop 2).drop (numVal (r.take 2))) (acc ++ [(r.drop 2).take (numVal (r.take 2))]) := by
  unfold Rest at *
  rw [h, splitN, if_neg (by omega), if_neg hr, Option.map_map]
  congr 1
  funext l
  simp
theorem Rest.done {b r : List UInt8} {acc : List (List UInt8)} (h : Rest b 0 r acc) (hr : r = []) : splitB b = some acc := by
  unfold Rest at h; rw [h, splitN, if_pos hr]; simp
theorem Rest.more {b r : List UInt8} {acc : List (List UInt8)} (h : Rest b 0 r acc) (hr : r ≠ []) : splitB b = none := by
  unfold Rest at h; rw [h, splitN, if_neg hr]; rfl
theorem Rest.start {b : List UInt8} (h : 2 ≤ b.length) : Rest b (numVal (b.take 2)) (b.drop 2) [] := by
  unfold Rest splitB
  rw [if_neg (by omega)]
  simp

set_option maxRecDepth 100000 in
set_option maxHeartbeats 2000000 in
theorem split_any (w : World) (v : Value) (b : List UInt8) (hv : IsBytes w v b) :
    Calls Try.prog 21 #[v] w fun e w' => SplitPost b w e w' := by
  have HL := Lib.hid (length_any w v b hv)
  obtain ⟨a, c, rfl⟩ := hv.slice
  by_cases h2 : b.length < 2
  · have hn : splitB b = none := by unfold splitB; rw [if_pos h2]
    have Hn := Lib.hid hn
    clear hn
    go_enter Try.func21, Try.ntmps21
    go_wp2_with fail
    refine HL.out.mono ?_
    rintro e w1 (⟨_, rfl, rfl⟩ | ⟨hh, _⟩)
    · go_wp2_with fail
      go_ret2
      exact .inr ⟨Hn.out, rfl, Up.refl _⟩
    · omega
  go_enter Try.func21, Try.ntmps21
  go_wp2_with fail
  refine HL.out.mono ?_
  rintro e w1 (⟨hh, _⟩ | ⟨_, a1, c1, rfl, hr1, nq, rfl⟩)
  · omega
  have hr1 := hr1 w hv
  have hstart := Rest.start (b := b) (by omega)
  have hmany := numVal_two_lt b
  have hdl : (b.drop 2).length = b.length - 2 := by simp
  rw [← hdl] at hr1 ⊢
  generalize b.drop 2 = r0 at *
  generalize numVal (b.take 2) = many at *
  clear HL hdl
  go_wp2_with fail
  go_loopw [0, 6, 20] (fun y x i wr => ∃ (j : Nat) (r : List UInt8) (acc : List (List UInt8)), j ≤ many ∧ acc.length = j ∧ i = .int .i64 j ∧ Rest b (many - j) r acc ∧ (∃ a' c', y = .slice a' r.length c' ∧ IsBytes w (.slice a' r.length c') r) ∧ OwnTexts wr w.heap.size x acc ∧ Up w wr) (fun _ _ i _ => many - (intOf i).toNat)
  case atStart => exact ⟨0, r0, [], Nat.zero_le _, rfl, rfl, hstart, ⟨a1, c1, rfl, hr1⟩, OwnTexts.nil _ _, (Up.refl w).drewN nq⟩
  case round =>
    obtain ⟨j, r, acc, hj, hacc, rfl, hrest, ⟨a', c', rfl, hr⟩, hown, upr⟩ := hrel
    obtain ⟨wo, rfl⟩ : ∃ wo : World, wo = wr := ⟨_, rfl⟩
    have Hrest := Lib.hid hrest
    clear hrest hstart hr1
    have hrl := hr.length_le
    by_cases hlt : j < many
    · obtain ⟨m, hm⟩ : ∃ m, many - j = m + 1 := ⟨many - j - 1, by omega⟩
      rw [hm] at Hrest
      have hm2 : many - (j + 1) = m := by omega
      have Hm2 := Lib.hid hm2
      have Hacc := Lib.hid hacc
      clear hm hm2 hacc
      have HL := Lib.hid (length_any wo _ r (hr.up upr))
      by_cases h2r : r.length < 2
      · have hn := Hrest.out.short h2r
        have Hn := Lib.hid hn
        clear hn
        go_wp2_with fail
        refine HL.out.mono ?_
        rintro e w1 (⟨_, rfl, rfl⟩ | ⟨hh, _⟩)
        · go_wp2_with fail
          go_ret2
          exact .inr ⟨Hn.out, rfl, upr⟩
        · omega
      go_wp2_with fail
      refine HL.out.mono ?_
      rintro e w1 (⟨hh, _⟩ | ⟨_, a2, c2, rfl, hr2, nq2, rfl⟩)
      · omega
      have hr2 := hr2 w hr
      have hsz := numVal_two_lt r
      have up1 : Up w (wo.drewN nq2) := upr.drewN _
      by_cases hlong : r.length - 2 < numVal (r.take 2)
      · have hn := Hrest.out.long (by omega) hlong
        have Hn := Lib.hid hn
        clear hn
        have hr2l : r.length - 2 ≤ 9223372036854775807 := by omega
        generalize numVal (r.take 2) = sz at *
        generalize r.length - 2 = rl at *
        go_wp2_with fail
        go_ret2
        exact .inr ⟨Hn.out, rfl, up1⟩
      have hnext := Hrest.out.next (by omega) hlong
      have hdl : (r.drop 2).length = r.length - 2 := by simp
      rw [← hdl] at hr2 hlong ⊢
      have hnl : (r.drop 2).length ≤ 9223372036854775807 := by omega
      generalize numVal (r.take 2) = sz at *
      generalize r.drop 2 = q at *
      have Hnext := Lib.hid hnext
      clear hnext hdl
      have mk := run_makeN (P := Try.prog) 29 5 (.int .u8 0) 1 Try.underlying29 info_u8 sz (by omega) (by omega)
      have hsl := run_piece_from (P := Try.prog) 29 bytes_elem bytes_size a2 q.length c2 sz (by omega)
      have hpc := hr2.piece (lo := sz) (hi := q.length) (by omega) (Nat.le_refl _)
      rw [List.take_length] at hpc
      generalize hw1 : wo.drewN nq2 = w1 at *
      have hg1 : Up wo w1 := by rw [← hw1]; exact (Up.refl wo).drewN _
      clear hw1 HL
      have hr3 : IsBytes (w1.alloc (.cells (zRow (.int .u8 0) sz) 5)) (.slice a2 q.length c2) q := hr2.up (up1.alloc _)
      have hhe : (w1.alloc (.cells (zRow (.int .u8 0) sz) 5)).heap[w1.heap.size]? = some (.cells (zRow (.int .u8 0) sz) 5) := heap_alloc_new w1 _
      go_wp2_with (refine wpList_copy_made (o := ⟨some 40, _, _, _, _, _⟩) byteCell byteCell_one rfl (.tmp 38) (.tmp 39) 29 rfl 5 (.int .u8 0) 1 Try.underlying29 info_u8 w1.heap.size sz w.heap.size hhe up1.size (by omega) (.slice a2 q.length c2) q rfl rfl hr3 (by omega) ?_)
      intro w2 hcop hbel
      have up2 : Up w1 w2 := (up_alloc w1 _).below_trans hbel (Nat.le_refl _)
      have hown2 := hown.up (hg1.trans up2)
      obtain ⟨vs, hvl, hvo, hve⟩ := hown2
      have hvl2 : vs.length ≤ 65535 := by have := Hacc.out; omega
      clear hr3 hhe mk hown
      have hdl2 : q.length - sz = (q.drop sz).length := by simp
      have Hdl2 := Lib.hid hdl2
      clear hdl2
      have hcop2 : Own byteCell 5 w2 w.heap.size (slCell ⟨some ⟨w1.heap.size, 0, none⟩, sz, sz⟩) (q.take sz) := hcop
      clear hcop
      go_wp2_with (at_builtin; refine wpList_append_ones slCell slCell_one rfl (.tmp 41) (.tmp 43) 50 rfl w.heap.size 29 (.slice none 0 0) 24 Try.underlying50 info_bytes rfl _ _ rfl (hvo.up (up_alloc w2 _)) (.slice (some ⟨w2.heap.size, 0, none⟩) 1 1) [⟨some ⟨w1.heap.size, 0, none⟩, sz, sz⟩] rfl (IsOnes.lit w2 #[.slice (some ⟨w1.heap.size, 0, none⟩) sz sz] 29 (0, 0) [_] 1 rfl (by unfold maxLen; omega) rfl) (by simp; omega) (by simp; omega) (((up1.trans up2).alloc _).size) ?_)
      intro v' w4 hown4 hg4 hb4
      have up4 : Up w w4 := ((up1.trans up2).alloc _).below_trans hb4 (Nat.le_refl _)
      have hot := OwnTexts.snoc hvl (hvo.up (up_alloc w2 _)) (fun i a b => (hve i a b).up (up_alloc w2 _)) (hcop2.up (up_alloc w2 _)) hown4 hg4
      have Hot := Lib.hid hot
      clear hot hown4 hve hvo hcop2
      go_wp2_with fail
      go_roundw
      case rel =>
        refine ⟨j + 1, q.drop sz, acc ++ [q.take sz], by omega, by rw [List.length_append, Hacc.out]; rfl, by go_num, by rw [Hm2.out]; exact Hnext.out, ⟨_, _, by rw [← Hdl2.out]; rfl, ?_⟩, Hot.out, up4⟩
        rw [← Hdl2.out]
        exact hpc
      case measure => simp [intOf]; omega
    · obtain rfl : j = many := by omega
      rw [Nat.sub_self] at Hrest
      by_cases hr0 : r = []
      · subst hr0
        have hd := Hrest.out.done rfl
        have Hd := Lib.hid hd
        clear hd hacc
        go_wp2_with fail
        go_ret2
        exact .inl ⟨acc, Hd.out, _, rfl, hown, upr⟩
      · have hd := Hrest.out.more hr0
        have Hd := Lib.hid hd
        have hpos : 0 < r.length := List.length_pos_iff.2 hr0
        clear hd hr0 hacc
        go_wp2_with fail
        go_ret2
        exact .inr ⟨Hd.out, rfl, upr⟩
end Go.Proofs.Ythbfhlphclgnaaa
