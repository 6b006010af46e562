/- The walks of field.Join and the document's Join. -/
import Derived.Test.YthbfhlphclgnaaaFieldW2
namespace Go.Proofs.Ythbfhlphclgnaaa
open Go.RowKit

/-- A slice value's parts. -/
structure SlV where
  a : Option Addr
  n : Nat
  c : Nat
def slCell (s : SlV) : Value := .slice s.a s.n s.c
theorem slCell_one (s : SlV) : (slCell s).oneCell' = true := rfl
/-- A slice of slices of bytes. -/
def IsTexts (w : World) (v : Value) (ts : List (List UInt8)) : Prop :=
  ∃ vs : List SlV, vs.length = ts.length ∧ IsOnes slCell w v vs ∧ ∀ i (h1 : i < vs.length) (h2 : i < ts.length), IsBytes w (slCell vs[i]) ts[i]
theorem IsTexts.up {w w' : World} {v : Value} {ts : List (List UInt8)} (h : IsTexts w v ts) (hu : Up w w') : IsTexts w' v ts := by
  obtain ⟨vs, h1, h2, h3⟩ := h
  exact ⟨vs, h1, h2.up hu, fun i a b => (h3 i a b).up hu⟩

def joinOne (t : List UInt8) : List UInt8 := numBytes t.length 2 ++ t
def joinFlat (ts : List (List UInt8)) : List UInt8 := ts.flatMap joinOne
def joinBytes (ts : List (List UInt8)) : List UInt8 := numBytes ts.length 2 ++ joinFlat ts
def shortAll (ts : List (List UInt8)) : Prop := ∀ t ∈ ts, t.length ≤ 65535
def okJoin (ts : List (List UInt8)) : Prop := ts.length ≤ 65535 ∧ shortAll ts
instance (ts : List (List UInt8)) : Decidable (shortAll ts) := by unfold shortAll; infer_instance
instance (ts : List (List UInt8)) : Decidable (okJoin ts) := by unfold okJoin; infer_instance

theorem joinFlat_take_succ (ts : List (List UInt8)) (k : Nat) (h : k < ts.length) : joinFlat (ts.take (k + 1)) = joinFlat (ts.take k) ++ (numBytes ts[k].length 2 ++ ts[k]) := by
  rw [take_snoc' ts k h, joinFlat, List.flatMap_append]; simp [joinFlat, joinOne]
theorem joinFlat_length_le {ts : List (List UInt8)} (h : shortAll ts) : (joinFlat ts).length ≤ 65537 * ts.length := by
  induction ts with
  | nil => simp [joinFlat]
  | cons t ts ih =>
    have := ih (fun x hx => h x (List.mem_cons_of_mem _ hx))
    have := h t (List.mem_cons_self ..)
    simp only [joinFlat, List.flatMap_cons, joinOne, List.length_append, numBytes_length, List.length_cons] at *
    omega
theorem shortAll_take_succ {ts : List (List UInt8)} {k : Nat} (h : k < ts.length) (h1 : shortAll (ts.take k)) (h2 : ts[k].length ≤ 65535) : shortAll (ts.take (k + 1)) := by
  intro x hx
  rw [take_snoc' ts k h] at hx
  rcases List.mem_append.1 hx with hx | hx
  · exact h1 x hx
  · simp at hx; subst hx; exact h2

def JoinPost (ts : List (List UInt8)) (w : World) (e : Ending) (w' : World) : Prop :=
  (okJoin ts ∧ ∃ v, e = .returned (.tuple #[v, .int .i64 0]) ∧ Own byteCell 5 w' w.heap.size v (joinBytes ts) ∧ Up w w') ∨
  (¬ okJoin ts ∧ e = .returned (.tuple #[.slice none 0 0, .int .i64 21]) ∧ Up w w')

/-- A number of two bytes. -/
theorem two_bytes (n : Nat) : numBytes n 2 = [UInt8.ofNat (n % 256), UInt8.ofNat (n / 256 % 256)] := rfl
theorem wrap_lo (n : Nat) : IntKind.u8.wrap (n : Int) = ((UInt8.ofNat (n % 256)).toNat : Int) := by rw [u8_mod, IntKind.wrap_u8']; omega
theorem wrap_hi (n : Nat) : IntKind.u8.wrap ((n : Int) / 256) = ((UInt8.ofNat (n / 256 % 256)).toNat : Int) := by rw [u8_mod, IntKind.wrap_u8']; omega

set_option maxHeartbeats 2000000 in
theorem join_any (w : World) (v : Value) (ts : List (List UInt8)) (hv : IsTexts w v ts) :
    Calls Try.prog 28 #[v] w fun e w' => JoinPost ts w e w' := by
  obtain ⟨vs, hvl, hvs, hts⟩ := hv
  have hll := hvs.length_le
  obtain ⟨a, cap, rfl⟩ := hvs.slice
  obtain ⟨len, hl⟩ : ∃ len, len = vs.length := ⟨_, rfl⟩
  rw [← hl] at hvs hll ⊢
  have hl2 : len = ts.length := hl.trans hvl
  have Hl := Lib.hid hl
  have Hl2 := Lib.hid hl2
  clear hl hvl
  by_cases hmany : 65535 < len
  · clear hl2
    go_enter Try.func28, Try.ntmps28
    go_wp2_with fail
    go_ret2
    exact .inr ⟨fun h => by have := h.1; have := Hl2.out; omega, rfl, Up.refl _⟩
  clear hl2
  go_enter Try.func28, Try.ntmps28
  go_wp2_with fail
  go_loop [4, 15] (fun s i => ∃ k : Nat, k ≤ len ∧ i = .int .i64 k ∧ shortAll (ts.take k) ∧ s = .int .i64 ((2 + (joinFlat (ts.take k)).length : Nat) : Int)) (fun _ i => len - (intOf i).toNat)
  case atStart => exact ⟨0, Nat.zero_le _, rfl, by intro x hx; simp at hx, rfl⟩
  case round =>
    obtain ⟨k, hk, rfl, hsh, rfl⟩ := hrel
    have hjl := joinFlat_length_le hsh
    have htl : (ts.take k).length ≤ k := List.length_take_le _ _
    have Hsh := Lib.hid hsh
    clear hsh
    by_cases hlt : k < len
    · have k1 : k < vs.length := by have := Hl.out; omega
      have k2 : k < ts.length := by have := Hl2.out; omega
      obtain ⟨b, off, rfl, _, hc⟩ := get_of_ones hvs Hl.out (by omega)
      have hbt := hts k k1 k2
      have d1 := hc k k1
      obtain ⟨a3, c3, hs3⟩ := hbt.slice
      rw [hs3] at d1
      have htl3 := hbt.length_le
      have hstep := joinFlat_take_succ ts k k2
      have hmem : ts[k] ∈ ts := List.getElem_mem k2
      have hnext := fun h => shortAll_take_succ k2 Hsh.out h
      clear hc hbt hs3
      generalize ts[k] = t at *
      have Hmem := Lib.hid hmem
      have Hnext := Lib.hid hnext
      have hlen2 : (joinFlat (ts.take (k + 1))).length = (joinFlat (ts.take k)).length + (2 + t.length) := by rw [hstep]; simp [numBytes_length]
      have Hlen2 := Lib.hid hlen2
      clear hmem hnext hstep hlen2
      generalize (joinFlat (ts.take k)).length = jl at *
      by_cases ht : 65535 < t.length
      · go_wp2_with fail
        go_ret2
        exact .inr ⟨fun h => by have := h.2 t Hmem.out; omega, rfl, Up.refl _⟩
      · go_wp2_with fail
        go_round
        case rel => exact ⟨k + 1, by omega, by go_num, Hnext.out (by omega), by rw [Hlen2.out]; congr 1; omega⟩
        case measure => simp [intOf]; omega
    · obtain rfl : k = len := by omega
      have e1 : ts.take k = ts := List.take_of_length_le (by have := Hl2.out; omega)
      have hsh := Hsh.out
      rw [e1] at hsh hjl ⊢
      clear e1
      have hok : okJoin ts := ⟨by have := Hl2.out; omega, hsh⟩
      have Hok := Lib.hid hok
      clear hsh hok
      rw [← Hl2.out] at hjl
      clear htl
      have hjl2 : 2 + (joinFlat ts).length ≤ 5000000000 := by omega
      generalize hJ : 2 + (joinFlat ts).length = J at *
      have HJ := Lib.hid hJ
      have mk := run_make0 (P := Try.prog) 29 5 (.int .u8 0) 1 Try.underlying29 info_u8 J (by omega) (by omega)
      have w1 := wrap_lo k
      have w2 := wrap_hi k
      have h2b := two_bytes k
      clear hJ hjl
      generalize UInt8.ofNat (k % 256) = ca at *
      generalize UInt8.ofNat (k / 256 % 256) = cb at *
      have H2b := Lib.hid h2b
      clear h2b
      go_wp2_with (at_builtin; refine wpList_append_ones byteCell byteCell_one rfl (.tmp 30) (.tmp 38) 29 rfl w.heap.size 5 (.int .u8 0) 1 Try.underlying29 info_u8 rfl _ [] rfl ((Own.room byteCell 5 w (.int .u8 0) w.heap.size J (Nat.le_refl _) (by omega)).up (up_alloc _ _)) (.slice (some ⟨w.heap.size + 1, 0, none⟩) 2 2) [ca, cb] rfl (IsOnes.litAt (w.alloc _) (w.heap.size + 1) (by simp) #[.int .u8 (ca.toNat : Int), .int .u8 (cb.toNat : Int)] 5 (0, 0) [ca, cb] 2 rfl (by unfold maxLen; omega) rfl) (by simp) (by simp) ((((Up.refl w).alloc _).alloc _).size) ?_)
      intro v' w3 hown3 _ hb3
      have up3 : Up w w3 := (((Up.refl w).alloc _).alloc _).below_trans hb3 (Nat.le_refl _)
      go_wp2_with fail
      have hh : [ca, cb] = numBytes k 2 ++ joinFlat (ts.take 0) := by rw [H2b.out]; simp [joinFlat]
      have Hh := Lib.hid hh
      clear hh
      go_loopw [7, 42] (fun x i wr => ∃ j : Nat, j ≤ k ∧ i = .int .i64 j ∧ Own byteCell 5 wr w.heap.size x (numBytes k 2 ++ joinFlat (ts.take j)) ∧ Up w wr) (fun _ i _ => k - (intOf i).toNat)
      case atStart => exact ⟨0, Nat.zero_le _, rfl, by rw [← Hh.out]; exact hown3, up3⟩
      case round =>
        obtain ⟨j, hj, rfl, hown, upr⟩ := hrel
        by_cases hlt : j < k
        · have k1 : j < vs.length := by have := Hl.out; omega
          have k2 : j < ts.length := by have := Hl2.out; omega
          obtain ⟨b, off, rfl, _, hc⟩ := get_of_ones hvs Hl.out (by omega)
          have hbt := hts j k1 k2
          have d1 := upr.cell (hc j k1)
          obtain ⟨a3, c3, hs3⟩ := hbt.slice
          rw [hs3] at d1 hbt
          have hstep := joinFlat_take_succ ts j k2
          have htl := Hok.out.2 _ (List.getElem_mem k2)
          have hjl := joinFlat_length_le (ts := ts.take j) (fun x hx => Hok.out.2 x (List.mem_of_mem_take hx))
          have htk : (ts.take j).length ≤ j := List.length_take_le _ _
          have hlen : (numBytes k 2 ++ joinFlat (ts.take j)).length ≤ 5000000000 := by rw [List.length_append, numBytes_length]; omega
          clear hc hs3 htk hjl
          generalize ts[j] = t at *
          have hstep2 : numBytes k 2 ++ joinFlat (ts.take (j + 1)) = ((numBytes k 2 ++ joinFlat (ts.take j)) ++ numBytes t.length 2) ++ t := by rw [hstep]; simp
          generalize numBytes k 2 ++ joinFlat (ts.take j) = pb at *
          have x1 := wrap_lo t.length
          have x2 := wrap_hi t.length
          have h3b := two_bytes t.length
          generalize UInt8.ofNat (t.length % 256) = cc at *
          generalize UInt8.ofNat (t.length / 256 % 256) = cd at *
          rw [h3b] at hstep2
          have Hstep2 := Lib.hid hstep2
          have hbt1 := hbt.up upr
          clear hstep hstep2 h3b
          go_wp2_with (at_builtin; refine wpList_append_ones byteCell byteCell_one rfl (.tmp 46) (.tmp 54) 29 rfl w.heap.size 5 (.int .u8 0) 1 Try.underlying29 info_u8 rfl _ _ rfl (hown.up (up_alloc wr _)) (.slice (some ⟨wr.heap.size, 0, none⟩) 2 2) [cc, cd] rfl (IsOnes.lit wr #[.int .u8 (cc.toNat : Int), .int .u8 (cd.toNat : Int)] 5 (0, 0) [cc, cd] 2 rfl (by unfold maxLen; omega) rfl) (by simp; omega) (by simp; omega) ((upr.alloc _).size) ?_)
          intro v4 w4 hown4 _ hb4
          have up4 : Up w w4 := (upr.alloc _).below_trans hb4 (Nat.le_refl _)
          have hbt4 := hbt.up up4
          have hlen4 : (pb ++ [cc, cd]).length ≤ 5000000002 := by simp; omega
          generalize hpc : pb ++ [cc, cd] = pc at *
          clear hpc
          go_wp2_with (at_builtin; refine wpList_append_ones byteCell byteCell_one rfl (.tmp 56) (.tmp 57) 29 rfl w.heap.size 5 (.int .u8 0) 1 Try.underlying29 info_u8 rfl _ _ rfl hown4 (.slice a3 t.length c3) t rfl hbt4 (by omega) (by omega) up4.size ?_)
          intro v5 w5 hown5 _ hb5
          go_wp2_with fail
          go_roundw
          case rel => exact ⟨j + 1, by omega, by go_num, by rw [Hstep2.out]; exact hown5, up4.below_trans hb5 (Nat.le_refl _)⟩
          case measure => simp [intOf]; omega
        · obtain rfl : j = k := by omega
          have e1 : ts.take j = ts := List.take_of_length_le (by have := Hl2.out; omega)
          rw [e1] at hown
          have hjb : numBytes j 2 ++ joinFlat ts = joinBytes ts := by unfold joinBytes; rw [← Hl2.out]
          rw [hjb] at hown
          clear e1 hjb
          go_wp2_with fail
          go_ret2
          exact .inl ⟨Hok.out, _, rfl, hown, upr⟩

set_option maxHeartbeats 2000000 in
theorem refJoin_any (w : World) (v : Value) (ts : List (List UInt8)) (hv : IsTexts w v ts) :
    Calls Try.prog 33 #[v] w fun e w' => JoinPost ts w e w' := by
  obtain ⟨vs, hvl, hvs, hts⟩ := hv
  have hll := hvs.length_le
  obtain ⟨a, cap, rfl⟩ := hvs.slice
  obtain ⟨len, hl⟩ : ∃ len, len = vs.length := ⟨_, rfl⟩
  rw [← hl] at hvs hll ⊢
  have hl2 : len = ts.length := hl.trans hvl
  have Hl := Lib.hid hl
  have Hl2 := Lib.hid hl2
  clear hl hvl
  by_cases hmany : 65535 < len
  · clear hl2
    go_enter Try.func33, Try.ntmps33
    go_wp2_with fail
    go_ret2
    exact .inr ⟨fun h => by have := h.1; have := Hl2.out; omega, rfl, Up.refl _⟩
  clear hl2
  have xe1 : IntKind.u64.wrap (len : Int) = (len : Int) := IntWalk.u64_in _ (by omega)
  go_enter Try.func33, Try.ntmps33
  go_wp2_with fail
  refine (number_any w len (by omega) 2 (by omega)).mono ?_
  rintro e w1 ⟨vn, rfl, hvn, up1⟩
  generalize (len / 256 ^ 2 == 0) = bb
  have hh : numBytes len 2 = numBytes len 2 ++ joinFlat (ts.take 0) := by simp [joinFlat]
  rw [hh] at hvn
  clear hh xe1
  obtain ⟨an, cn, hsn⟩ := hvn.ones.slice
  subst hsn
  go_wp2_with fail
  go_loopw [4, 22] (fun x i wr => ∃ j : Nat, j ≤ len ∧ i = .int .i64 j ∧ shortAll (ts.take j) ∧ Own byteCell 5 wr w.heap.size x (numBytes len 2 ++ joinFlat (ts.take j)) ∧ Up w wr) (fun _ i _ => len - (intOf i).toNat)
  case atStart => exact ⟨0, Nat.zero_le _, rfl, by intro x hx; simp at hx, by simpa using hvn, up1⟩
  case round =>
    obtain ⟨j, hj, rfl, hsh, hown, upr⟩ := hrel
    have hjl := joinFlat_length_le hsh
    have htk : (ts.take j).length ≤ j := List.length_take_le _ _
    have hlen : (numBytes len 2 ++ joinFlat (ts.take j)).length ≤ 5000000000 := by rw [List.length_append, numBytes_length]; omega
    have Hsh := Lib.hid hsh
    clear hsh hjl htk
    by_cases hlt : j < len
    · have k1 : j < vs.length := by have := Hl.out; omega
      have k2 : j < ts.length := by have := Hl2.out; omega
      obtain ⟨b, off, rfl, _, hc⟩ := get_of_ones hvs Hl.out (by omega)
      have hbt := hts j k1 k2
      have d1 := upr.cell (hc j k1)
      obtain ⟨a3, c3, hs3⟩ := hbt.slice
      rw [hs3] at d1 hbt
      have htl3 := hbt.length_le
      have hstep := joinFlat_take_succ ts j k2
      have hmem : ts[j] ∈ ts := List.getElem_mem k2
      have hnext := fun h => shortAll_take_succ k2 Hsh.out h
      clear hc hs3
      generalize ts[j] = t at *
      have hstep2 : numBytes len 2 ++ joinFlat (ts.take (j + 1)) = ((numBytes len 2 ++ joinFlat (ts.take j)) ++ numBytes t.length 2) ++ t := by rw [hstep]; simp
      generalize numBytes len 2 ++ joinFlat (ts.take j) = pb at *
      have Hstep2 := Lib.hid hstep2
      have Hmem := Lib.hid hmem
      have Hnext := Lib.hid hnext
      clear hstep hstep2 hmem hnext
      by_cases ht : 65535 < t.length
      · go_wp2_with fail
        go_ret2
        exact .inr ⟨fun h => by have := h.2 t Hmem.out; omega, rfl, upr⟩
      · have xe2 : IntKind.u64.wrap (t.length : Int) = (t.length : Int) := IntWalk.u64_in _ (by omega)
        go_wp2_with fail
        refine (number_any wr t.length (by omega) 2 (by omega)).mono ?_
        rintro e w3 ⟨vb, rfl, hvb, up3⟩
        generalize (t.length / 256 ^ 2 == 0) = b3
        have hb3 := hvb.ones
        have hnl := numBytes_length 2 t.length
        generalize hnb : numBytes t.length 2 = nb at *
        obtain ⟨a5, c5, hv5⟩ := hb3.slice
        subst hv5
        rw [hnl] at hb3 ⊢
        have Hnb := Lib.hid hnb
        have Hnl := Lib.hid hnl
        clear hnb hnl hvb
        go_wp2_with (at_builtin; refine wpList_append_ones byteCell byteCell_one rfl (.tmp 36) (.tmp 37) 29 rfl w.heap.size 5 (.int .u8 0) 1 Try.underlying29 info_u8 rfl _ _ rfl (hown.up up3) (.slice a5 2 c5) nb rfl hb3 (by have := Hnl.out; omega) (by have := Hnl.out; omega) (upr.trans up3).size ?_)
        intro v4 w4 hown4 _ hb4
        have up4 : Up w w4 := (upr.trans up3).below_trans hb4 (Nat.le_refl _)
        have hbt4 := hbt.up up4
        have hlen4 : (pb ++ nb).length ≤ 5000000002 := by have := Hnl.out; simp; omega
        generalize hpc : pb ++ nb = pc at *
        have Hpc := Lib.hid hpc
        clear hpc
        go_wp2_with (at_builtin; refine wpList_append_ones byteCell byteCell_one rfl (.tmp 39) (.tmp 40) 29 rfl w.heap.size 5 (.int .u8 0) 1 Try.underlying29 info_u8 rfl _ _ rfl hown4 (.slice a3 t.length c3) t rfl hbt4 (by omega) (by omega) up4.size ?_)
        intro v5 w5 hown5 _ hb5
        go_wp2_with fail
        go_roundw
        case rel => exact ⟨j + 1, by omega, by go_num, Hnext.out (by omega), by rw [Hstep2.out]; exact hown5, up4.below_trans hb5 (Nat.le_refl _)⟩
        case measure => simp [intOf]; omega
    · obtain rfl : j = len := by omega
      have e1 : ts.take j = ts := List.take_of_length_le (by have := Hl2.out; omega)
      have hsh := Hsh.out
      rw [e1] at hown hsh
      have hjb : numBytes j 2 ++ joinFlat ts = joinBytes ts := by unfold joinBytes; rw [← Hl2.out]
      rw [hjb] at hown
      have hok : okJoin ts := ⟨by have := Hl2.out; omega, hsh⟩
      have Hok := Lib.hid hok
      clear e1 hjb hsh hok hlen
      go_wp2_with fail
      go_ret2
      exact .inl ⟨Hok.out, _, rfl, hown, upr⟩
end Go.Proofs.Ythbfhlphclgnaaa
