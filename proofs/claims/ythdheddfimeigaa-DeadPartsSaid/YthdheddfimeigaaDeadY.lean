/- Lists as bytes: plain functions; dead.Bytes: the walk. -/
import Derived.Test.YthdheddfimeigaaDeadM
import Derived.Test.YthdheddfimeigaaPtrK
set_option linter.unusedSimpArgs false
namespace Go.Proofs.Ythdheddfimeigaa
open Go.RowKit Go.Sort

theorem ptrBytes_len (p : PtrD) : (ptrBytes p).length = 16 := by
  unfold ptrBytes; rw [putBytes_length _ _ rfl]; rfl
def bytesL (l : List PtrD) : List UInt8 := l.flatMap ptrBytes
theorem bytesL_length (l : List PtrD) : (bytesL l).length = 16 * l.length := by
  unfold bytesL
  induction l with
  | nil => rfl
  | cons x l ih => rw [List.flatMap_cons, List.length_append, ptrBytes_len, ih, List.length_cons]; omega
theorem bytesL_snoc (l : List PtrD) (k : Nat) (h : k < l.length) : bytesL (l.take (k + 1)) = bytesL (l.take k) ++ ptrBytes l[k] := by
  unfold bytesL; rw [List.take_succ_eq_append_getElem h, List.flatMap_append]; simp
def bytesO (l : List PtrD) : Option (List UInt8) := if l.length ≤ 4000 ∧ rightB l = true then some (bytesL l) else none
def pieceB (b : List UInt8) (k : Nat) : List UInt8 := (b.drop (16 * k)).take 16
def readTo (b : List UInt8) : Nat → Option (List PtrD)
  | 0 => some []
  | k + 1 => match readTo b k with
    | none => none
    | some l => (readB (pieceB b k)).map (l ++ [·])
theorem readTo_none (b : List UInt8) (k : Nat) (h : readTo b k = none) : ∀ n, k ≤ n → readTo b n = none
  | 0, hn => by obtain rfl : k = 0 := by omega
                exact h
  | n + 1, hn => by
    by_cases e : k = n + 1
    · subst e; exact h
    · rw [readTo, readTo_none b k h n (by omega)]
theorem readTo_step {b : List UInt8} {k : Nat} {l : List PtrD} (h : readTo b k = some l) : readTo b (k + 1) = (readB (pieceB b k)).map (l ++ [·]) := by rw [readTo, h]
theorem readTo_length {b : List UInt8} : ∀ {k : Nat} {l : List PtrD}, readTo b k = some l → l.length = k
  | 0, l, h => by simp [readTo] at h; subst h; rfl
  | k + 1, l, h => by
    rw [readTo] at h
    cases h1 : readTo b k with
    | none => rw [h1] at h; cases h
    | some m =>
      rw [h1] at h
      simp only [Option.map_eq_some_iff] at h
      obtain ⟨p, _, rfl⟩ := h
      simp [readTo_length h1]
def rightO : Option (List PtrD) → Option (List PtrD)
  | some l => if rightB l = true then some l else none
  | none => none
def readL (b : List UInt8) : Option (List PtrD) := if b.length % 16 = 0 ∧ b.length ≤ 64000 then rightO (readTo b (b.length / 16)) else none

theorem piece_bytes (l : List PtrD) (k : Nat) (h : k < l.length) : pieceB (bytesL l) k = ptrBytes l[k] := by
  have e : bytesL l = bytesL (l.take k) ++ (ptrBytes l[k] ++ bytesL (l.drop (k + 1))) := by
    unfold bytesL
    rw [← List.flatMap_cons, ← List.drop_eq_getElem_cons h, ← List.flatMap_append, List.take_append_drop]
  have hl : (bytesL (l.take k)).length = 16 * k := by rw [bytesL_length, List.length_take]; omega
  unfold pieceB
  rw [e, List.drop_append_of_le_length (by omega), List.drop_of_length_le (by omega), List.nil_append, List.take_left' (ptrBytes_len _)]
theorem readTo_bytes (l : List PtrD) (hw : ∀ x ∈ l, x.wf) (hg : ∀ x ∈ l, goodB x = true) : ∀ k, k ≤ l.length → readTo (bytesL l) k = some (l.take k)
  | 0, _ => rfl
  | k + 1, hk => by
    rw [readTo_step (readTo_bytes l hw hg k (by omega)), piece_bytes l k (by omega), ptrOf_bytes _ (hw _ (List.getElem_mem _)) (hg _ (List.getElem_mem _)), List.take_succ_eq_append_getElem (by omega)]
    rfl
theorem right_good {l : List PtrD} (h : rightB l = true) : ∀ x ∈ l, goodB x = true := fun x hx => by
  obtain ⟨i, hi, rfl⟩ := List.getElem_of_mem hx
  have := (rightB_iff l).1 h i hi
  unfold okAt fitB at this
  simp at this
  exact this.1.2
theorem readL_bytes (l : List PtrD) (hw : ∀ x ∈ l, x.wf) (hl : l.length ≤ 4000) (hr : rightB l = true) : readL (bytesL l) = some l := by
  unfold readL
  rw [bytesL_length, if_pos ⟨by omega, by omega⟩, show 16 * l.length / 16 = l.length by omega, readTo_bytes l hw (right_good hr) _ (Nat.le_refl _), List.take_length]
  simp [rightO, hr]

def BytesPost (o : Option (List UInt8)) (w : World) (e : Ending) (w' : World) : Prop :=
  (o = none ∧ e = .returned (.tuple #[.slice none 0 0, .int .i64 131]) ∧ Up w w') ∨ ∃ m u, o = some m ∧ e = .returned (.tuple #[u, .int .i64 0]) ∧ Own byteCell 5 w' w.heap.size u m ∧ Up w w'
theorem wrap16 (n : Nat) (h : n ≤ 4000) : IntKind.i64.wrap ((n : Int) * 16) = ((n * 16 : Nat) : Int) := by
  rw [show (n : Int) * 16 = ((n * 16 : Nat) : Int) by omega]; exact wrap_i64_nat _ (by omega)

set_option maxHeartbeats 4000000 in
theorem lbytes_any (w : World) (v : Value) (l : List PtrD) (hv : IsPtrs w v l) (hwf : ∀ x ∈ l, x.wf) :
    Calls Try.prog 23 #[v] w fun e w' => BytesPost (bytesO l) w e w' := by
  have R := Lib.hid (fun W (up : Up w W) => lright_any W v l (IsRow.up hv up))
  have hlen := hv.length_le
  by_cases h4 : l.length ≤ 4000
  case neg =>
    have HN := Lib.hid (show bytesO l = none from if_neg (fun h => h4 h.1))
    obtain ⟨a, cap, rfl⟩ := hv.slice
    have t1 : decide ((4000 : Int) < (l.length : Int)) = true := by simp; omega
    have t2 : decide (4000 < l.length) = true := by simp; omega
    clear h4
    go_enter Try.func23, Try.ntmps23
    go_wp2_with fail
    go_ret2
    exact .inl ⟨HN.out, rfl, Up.refl _⟩
  have t1 : decide ((4000 : Int) < (l.length : Int)) = false := by simp; omega
  have t2 : decide (4000 < l.length) = false := by simp; omega
  cases hR : rightB l
  case false =>
    have HN := Lib.hid (show bytesO l = none from if_neg (fun h => by rw [hR] at h; cases h.2))
    rw [hR] at R
    clear hR
    obtain ⟨a, cap, rfl⟩ := hv.slice
    go_enter Try.func23, Try.ntmps23
    go_wp2_with fail
    refine (R.out _ (Up.refl _)).mono ?_
    rintro e w1 ⟨rfl, up1⟩
    go_wp2_with fail
    go_ret2
    exact .inl ⟨HN.out, rfl, up1⟩
  have HN := Lib.hid (show bytesO l = some (bytesL l) from if_pos ⟨h4, hR⟩)
  have HG := Lib.hid (right_good hR)
  have HW := Lib.hid hwf
  rw [hR] at R
  clear hR hwf
  obtain ⟨T, hT⟩ : ∃ T, T = l.length * 16 := ⟨_, rfl⟩
  have MK : ∀ W : World, (Instr.makeSlice 44 (.int .i64 0) (.int .i64 (T : Int))).run Try.prog W = _ := fun W => run_make0 (P := Try.prog) 44 5 (.int .u8 0) 1 Try.underlying44 info_u8 T (by omega) (by omega) W
  have RM := Lib.hid (fun W (B : Nat) (hB : B ≤ W.heap.size) => Own.room byteCell 5 W (.int .u8 0) B T hB (by omega))
  have wt : IntKind.i64.wrap ((l.length : Int) * 16) = (T : Int) := by rw [hT]; exact wrap16 _ h4
  generalize zRow (.int .u8 0) T = zr at *
  have HT := Lib.hid hT
  clear hT
  have HV := Lib.hid hv
  obtain ⟨a, cap, rfl⟩ := hv.slice
  clear hv
  go_enter Try.func23, Try.ntmps23
  go_wp2_with fail
  refine (R.out _ (Up.refl _)).mono ?_
  rintro e w1 ⟨rfl, up1⟩
  go_wp2_with fail
  have own0 := RM.out w1 w.heap.size up1.size
  have upz := up1.trans (up_alloc w1 (.cells zr 5))
  go_loopw [4, 23] (fun u i wr => ∃ k : Nat, k ≤ l.length ∧ i = .int .i64 k ∧ Own byteCell 5 wr w.heap.size u (bytesL (l.take k)) ∧ Up w wr) (fun _ i _ => l.length - (intOf i).toNat)
  case atStart => exact ⟨0, Nat.zero_le _, rfl, own0, upz⟩
  case round =>
    obtain ⟨k, hk, rfl, hown, upr⟩ := hrel
    clear own0 MK wt upz
    have HO := Lib.hid hown
    clear hown
    by_cases hlt : k < l.length
    · obtain ⟨b, off, rfl, _, _, hc⟩ := ptrs_at (IsRow.up HV.out upr) (by omega)
      have hc0 := (hc k hlt).1
      have hc1 := (hc k hlt).2.1
      have hc2 := (hc k hlt).2.2
      have b2 : ((k : Int) < (l.length : Int)) = True := by simp; omega
      have hmem := List.getElem_mem hlt
      have B := Lib.hid (fun W => bytes_any W l[k] (HW.out _ hmem))
      have G := Lib.hid (HG.out _ hmem)
      have SN := Lib.hid (bytesL_snoc l k hlt)
      have LE := Lib.hid (show (bytesL (l.take k)).length ≤ 64000 by rw [bytesL_length, List.length_take]; omega)
      clear hc hmem
      generalize l[k] = p at *
      obtain ⟨pl, pb, ps⟩ := p
      unfold ptrV at B
      simp only at hc0 hc1 hc2 B
      have upa := up_alloc wr (.cells #[.int .i64 pl, .int .u64 (pb : Int), .int .u32 (ps : Int)] 29)
      go_wp2_with fail
      refine (B.out _).mono ?_
      rintro e w3 h3
      obtain ⟨u3, rfl, ho3, up3⟩ : ∃ u3, e = .returned (.tuple #[u3, .int .i64 0]) ∧ Own byteCell 5 w3 (wr.alloc (.cells #[.int .i64 pl, .int .u64 (pb : Int), .int .u32 (ps : Int)] 29)).heap.size u3 (ptrBytes ⟨pl, pb, ps⟩) ∧ Up (wr.alloc (.cells #[.int .i64 pl, .int .u64 (pb : Int), .int .u32 (ps : Int)] 29)) w3 := by
        rcases h3 with ⟨_, u, rfl, h, h'⟩ | ⟨h, _⟩
        · exact ⟨u, rfl, h, h'⟩
        · rw [G.out] at h; cases h
      clear h3
      have up03 := upa.trans up3
      have o3 := HO.out.up up03
      have s3 := (upr.trans up03).size
      have pl16 := ptrBytes_len ⟨pl, pb, ps⟩
      have PL := Lib.hid pl16
      have hon := ho3.ones
      clear pl16 ho3
      generalize ptrBytes ⟨pl, pb, ps⟩ = pbs at *
      generalize bytesL (l.take k) = acc at *
      go_wp2_with (at_builtin; refine wpList_append_ones byteCell byteCell_one rfl (.tmp 34) (.tmp 35) 44 rfl w.heap.size 5 (.int .u8 0) 1 Try.underlying44 info_u8 rfl _ acc rfl o3 u3 pbs rfl hon (by have := LE.out; have := PL.out; omega) (by have := LE.out; have := PL.out; omega) s3 ?_)
      intro v' w5 hown5 _ hb5
      go_wp2_with fail
      go_roundw
      case rel => exact ⟨k + 1, by omega, by go_num, by rw [SN.out]; exact hown5, (upr.trans up03).below_trans hb5 (Nat.le_refl _)⟩
      case measure => simp [intOf]; omega
    · obtain rfl : k = l.length := by omega
      have HL := Lib.hid (List.take_length (l := l))
      go_wp2_with fail
      go_ret2
      exact .inr ⟨bytesL l, _, HN.out, rfl, by have := HO.out; rw [HL.out] at this; exact this, upr⟩
end Go.Proofs.Ythdheddfimeigaa
