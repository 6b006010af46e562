/- The document's Commit, List, Best (aquiferref06): the walks. -/
import Derived.Test.YtgmdhedabmkcoaaRd
set_option linter.unusedSimpArgs false
set_option linter.unusedVariables false
namespace Go.Proofs.Ytgmdhedabmkcoaa
open Go.RowKit Go.Sort

def DevD.atR (v : DevD) (i : Nat) : Option UbD := if v.hasB (i : Int) = true ∧ v.dead = false then (uread (nowF (i : Int) v.pend (v.stableAt (i : Int))).val).bind fun u => if u.txg % 4 = i then some u else none else none
def DevD.rawR (v : DevD) : Nat → List UbD
  | 0 => []
  | k + 1 => v.rawR k ++ (v.atR k).toList
def DevD.ringR (v : DevD) : List UbD := sortU (v.rawR 4)
def DevD.bestR (v : DevD) : Option UbD := v.ringR.getLast?
theorem rawR_length (v : DevD) : ∀ k, (v.rawR k).length ≤ k
  | 0 => Nat.le_refl _
  | k + 1 => by
    rw [DevD.rawR, List.length_append]
    have h1 := rawR_length v k
    have h2 : (v.atR k).toList.length ≤ 1 := by cases v.atR k <;> simp
    omega
theorem sortR_length (v : DevD) (k : Nat) : (sortU (v.rawR k)).length ≤ k := by
  rw [(sortU_perm _).length_eq]
  exact rawR_length v k
theorem sortR_none {v : DevD} {k : Nat} (h : v.atR k = none) : sortU (v.rawR (k + 1)) = sortU (v.rawR k) := by
  rw [DevD.rawR, h]
  simp
theorem sortR_some {v : DevD} {k : Nat} {u : UbD} (h : v.atR k = some u) : sortU (v.rawR (k + 1)) = insU u (sortU (v.rawR k)) := by
  rw [DevD.rawR, h]
  unfold sortU
  rw [List.foldl_append]
  rfl
theorem ubs_at2 {w : World} {a : Option Addr} {n cap : Nat} {l : List UbD} (h : IsRow ucells w (.slice a n cap) l) (h0 : 0 < l.length) : ∃ b off, a = some ⟨b, off, none⟩ ∧ b < w.heap.size ∧ ∀ i (hi : i < l.length), w.rangeAt b (off + i * 7) (uC l[i]).toList := by
  obtain ⟨b, off, h1, h2, _, h4⟩ := IsRow.get h uw h0
  exact ⟨b, off, h1, h2, fun i hi j v hj => by
    have := h4 i hi j v (by simpa [ucells] using hj)
    rw [show off + i * 7 + j = off + (i * 7 + j) by omega]
    exact this⟩
/-- The new list, so far. -/
def InsTo (u : UbD) (l : List UbD) (dn : Bool) (nx : List UbD) : Prop := if dn = true then nx = insU u l ∧ ∃ y ∈ l, u.txg < y.txg else nx = l ∧ ∀ y ∈ l, ¬ u.txg < y.txg
theorem ins_all : ∀ {u : UbD} {l : List UbD}, (∀ y ∈ l, ¬ u.txg < y.txg) → insU u l = l ++ [u]
  | u, [], _ => rfl
  | u, x :: l, h => by
    rw [insU, if_neg (h x (List.mem_cons_self ..)), ins_all (fun y hy => h y (List.mem_cons_of_mem _ hy))]
    rfl
theorem ins_first : ∀ {u x : UbD} {l : List UbD}, (∀ y ∈ l, ¬ u.txg < y.txg) → u.txg < x.txg → insU u (l ++ [x]) = l ++ [u] ++ [x]
  | u, x, [], _, h => by rw [List.nil_append, insU, if_pos h]; rfl
  | u, x, y :: l, h, hx => by
    rw [List.cons_append, insU, if_neg (h y (List.mem_cons_self ..)), ins_first (fun z hz => h z (List.mem_cons_of_mem _ hz)) hx]
    rfl
theorem ins_later : ∀ {u x : UbD} {l : List UbD}, (∃ y ∈ l, u.txg < y.txg) → insU u (l ++ [x]) = insU u l ++ [x]
  | u, x, [], ⟨y, hy, _⟩ => by cases hy
  | u, x, z :: l, ⟨y, hy, h⟩ => by
    rw [List.cons_append, insU, insU]
    by_cases hz : u.txg < z.txg
    · rw [if_pos hz, if_pos hz]; rfl
    · rw [if_neg hz, if_neg hz]
      rcases List.mem_cons.1 hy with rfl | hy
      · exact absurd h hz
      · rw [ins_later ⟨y, hy, h⟩]; rfl
theorem insTo_nil (u : UbD) (l : List UbD) : InsTo u (l.take 0) false [] := ⟨rfl, fun y hy => by simp at hy⟩
theorem insTo_here {u : UbD} {l nx : List UbD} {j : Nat} (hj : j < l.length) (h : InsTo u (l.take j) false nx) (hx : u.txg < l[j].txg) : InsTo u (l.take (j + 1)) true (nx ++ [u] ++ [l[j]]) := by
  obtain ⟨h1, h2⟩ := h
  rw [List.take_succ_eq_append_getElem hj]
  subst h1
  exact ⟨(ins_first h2 hx).symm, l[j], List.mem_append_right _ (List.mem_singleton.2 rfl), hx⟩
theorem insTo_not {u : UbD} {l nx : List UbD} {j : Nat} (hj : j < l.length) (h : InsTo u (l.take j) false nx) (hx : ¬ u.txg < l[j].txg) : InsTo u (l.take (j + 1)) false (nx ++ [l[j]]) := by
  obtain ⟨h1, h2⟩ := h
  rw [List.take_succ_eq_append_getElem hj]
  subst h1
  refine ⟨rfl, fun y hy => ?_⟩
  rcases List.mem_append.1 hy with hy | hy
  · exact h2 y hy
  · simp at hy; subst hy; exact hx
theorem insTo_past {u : UbD} {l nx : List UbD} {j : Nat} (hj : j < l.length) (h : InsTo u (l.take j) true nx) : InsTo u (l.take (j + 1)) true (nx ++ [l[j]]) := by
  obtain ⟨h1, y, hy, h2⟩ := h
  rw [List.take_succ_eq_append_getElem hj]
  subst h1
  exact ⟨(ins_later ⟨y, hy, h2⟩).symm, y, List.mem_append_left _ hy, h2⟩
theorem insTo_end {u : UbD} {l nx : List UbD} {dn : Bool} (h : InsTo u (l.take l.length) dn nx) : (if dn = true then nx else nx ++ [u]) = insU u l := by
  rw [List.take_of_length_le (Nat.le_refl _)] at h
  cases dn
  · obtain ⟨h1, h2⟩ := h
    rw [ins_all h2, h1]; rfl
  · exact h.1
theorem insTo_length {u : UbD} {l nx : List UbD} {dn : Bool} (h : InsTo u l dn nx) : nx.length ≤ l.length + 1 := by
  cases dn
  · rw [h.1]; omega
  · rw [h.1, (insU_perm u l).length_eq]; simp
set_option maxRecDepth 100000 in
set_option maxHeartbeats 8000000 in
theorem rlist_any (w : World) (s p : Sl) (o : Int) (v : DevD) (R : RDv w s p v) :
    Calls Try.prog 29 #[.agg (rdC s p o v.left v.dead)] w fun e w' => ∃ a n c, e = .returned (.slice a n c) ∧ IsRow ucells w' (.slice a n c) v.ringR ∧ (∀ b, Value.ownBlock (.slice a n c) = some b → w.heap.size ≤ b ∧ b < w'.heap.size) ∧ Up w w' := by
  have HR := Lib.hid R
  have UA := up_alloc w (.cells (rdC s p o v.left v.dead) 61)
  have UA2 := up_alloc (w.alloc (.cells (rdC s p o v.left v.dead) 61)) (.cells #[] 27)
  have B1 := Lib.hid ((Blk.new w 61 (rdC s p o v.left v.dead)).up UA2)
  have U1 := Lib.hid (UA.trans UA2)
  have O1' := OwnRow.made ucells 7 27 (w.alloc (.cells (rdC s p o v.left v.dead) 61)) w.heap.size UA.size
  rw [sz_alloc] at O1'
  have R1 := Lib.hid (O1'.row uw)
  have N1 := Lib.hid (O1'.block_lt)
  clear UA UA2 O1' R
  go_enter Try.func29, Try.ntmps29
  go_wp2_with fail
  go_loopw [3, 4] (fun lv i wr => ∃ k : Nat, k ≤ 4 ∧ i = .int .i64 k ∧ IsRow ucells wr lv (sortU (v.rawR k)) ∧ (∀ b, lv.ownBlock = some b → w.heap.size ≤ b ∧ b < wr.heap.size) ∧ Blk wr w.heap.size 61 (rdC s p o v.left v.dead) ∧ Up w wr) (fun _ i _ => 4 - (intOf i).toNat)
  case atStart => exact ⟨0, Nat.zero_le _, rfl, R1.out, N1.out, B1.out, U1.out⟩
  case round =>
    obtain ⟨k, hk, rfl, rk, nk, bk, uk⟩ := hrel
    obtain ⟨w1, hw1⟩ : ∃ x, x = wr := ⟨_, rfl⟩
    subst hw1
    have RK := Lib.hid rk
    have NK := Lib.hid nk
    have BK := Lib.hid bk
    have UK := Lib.hid uk
    clear rk nk bk uk R1 N1 B1 U1
    by_cases hlt : k < 4
    · have b3 : ((k : Int) < 4) = True := by simp; omega
      have TH := Lib.hid (there_any w1 s p o v (HR.out.up UK.out) (k : Int))
      go_wp2_with (first
        | ((with_reducible refine wg_load 61 (.tmp 1) ?_); refine wpList_load_blkG rfl 61 (.tmp 1) rfl w.heap.size rfl 61 _ BK.out _ Try.underlying61 rfl (info_rd _ _ _ _ _) ?_))
      refine TH.out.mono ?_
      rintro e w2 ⟨rfl, U2⟩
      have BK := Lib.hid (BK.out.up U2)
      have RK := Lib.hid (RK.out.up U2)
      have NK := Lib.hid (fun b hb => show w.heap.size ≤ b ∧ b < w2.heap.size from ⟨(NK.out b hb).1, Nat.lt_of_lt_of_le (NK.out b hb).2 U2.size⟩)
      have UK := Lib.hid (UK.out.trans U2)
      have AT := Lib.hid (show v.atR k = if v.hasB (k : Int) = true ∧ v.dead = false then (uread (nowF (k : Int) v.pend (v.stableAt (k : Int))).val).bind fun u => if u.txg % 4 = k then some u else none else none from rfl)
      obtain ⟨_, _, _, _, c4⟩ := rd_at BK.out
      clear TH U2
      cases hb : v.hasB (k : Int)
      · have SN := Lib.hid (sortR_none (v := v) (k := k) (by rw [AT.out, hb, if_neg (by simp)]))
        clear hb
        go_wp2_with fail
        go_roundw
        case rel => exact ⟨k + 1, by omega, by go_num, by rw [SN.out]; exact RK.out, NK.out, BK.out, UK.out⟩
        case measure => simp [intOf]; omega
      by_cases hd : v.dead = true
      · have SN := Lib.hid (sortR_none (v := v) (k := k) (by rw [AT.out, hd, if_neg (by simp)]))
        rw [hd] at c4
        clear hb hd
        go_wp2_with fail
        go_roundw
        case rel => exact ⟨k + 1, by omega, by go_num, by rw [SN.out]; exact RK.out, NK.out, BK.out, UK.out⟩
        case measure => simp [intOf]; omega
      rw [Bool.not_eq_true] at hd
      have AT := Lib.hid (show v.atR k = (uread (nowF (k : Int) v.pend (v.stableAt (k : Int))).val).bind fun u => if u.txg % 4 = k then some u else none by rw [AT.out, if_pos ⟨hb, hd⟩])
      have NW := Lib.hid (rnow_any w2 s p o v (HR.out.up UK.out) (k : Int))
      rw [hd] at c4
      clear hb hd
      obtain ⟨S, hS⟩ : ∃ S, S = nowF (k : Int) v.pend (v.stableAt (k : Int)) := ⟨_, rfl⟩
      rw [← hS] at NW AT
      clear hS
      go_wp2_with (first
        | ((with_reducible refine wg_load 61 (.tmp 1) ?_); refine wpList_load_blkG rfl 61 (.tmp 1) rfl w.heap.size rfl 61 _ BK.out _ Try.underlying61 rfl (info_rd _ _ _ _ _) ?_))
      refine NW.out.mono ?_
      rintro e w3 ⟨rfl, U3⟩
      have RDU := Lib.hid (urefRead_any w3 S.val S.property)
      unfold URead at RDU
      go_wp2_with fail
      refine RDU.out.mono ?_
      rintro e w4 ⟨rfl, U4⟩
      obtain ⟨y, hy⟩ : ∃ y, y = (uread S.val).getD zUb := ⟨_, rfl⟩
      obtain ⟨ok, hok⟩ : ∃ ok, ok = (uread S.val).isSome := ⟨_, rfl⟩
      rw [← hy, ← hok]
      have HU := Lib.hid (show ok = true → uread S.val = some y by rw [hy, hok]; cases uread S.val <;> simp)
      have HU0 := Lib.hid (show ok = false → uread S.val = none by rw [hok]; cases uread S.val <;> simp)
      have UX := (U3.trans U4).trans (up_alloc w4 (.cells (uC y) 27))
      have BK := Lib.hid (BK.out.up UX)
      have RK := Lib.hid (RK.out.up UX)
      have NK := Lib.hid (fun b hb => show w.heap.size ≤ b ∧ b < (w4.alloc (.cells (uC y) 27)).heap.size from ⟨(NK.out b hb).1, Nat.lt_of_lt_of_le (NK.out b hb).2 UX.size⟩)
      have UK := Lib.hid (UK.out.trans UX)
      have BY := Lib.hid (Blk.new w4 27 (uC y))
      obtain ⟨d0, _, _, _, _, _⟩ := uC_at BY.out
      have i0 : (uC y)[0]? = some (.int .u64 (y.txg : Int)) := rfl
      have wk := wrap_u64_nat k (by omega)
      clear c4 NW RDU U3 U4 UX hy hok
      cases hok : ok
      · have SN := Lib.hid (sortR_none (v := v) (k := k) (by rw [AT.out, HU0.out hok]; rfl))
        clear hok
        go_wp2_with (first
          | ((with_reducible refine wg_alloc 27 ?_); refine wpList_alloc_blk rfl 27 rfl (uC zUb) zero_ub ?_)
          | ((with_reducible refine wg_store 27 (.tmp 5) (.tmp 29) ?_); refine ws_new w4 rfl 27 (.tmp 5) (.tmp 29) rfl (uC y) 27 (uC zUb) rfl rfl rfl (info_uV y) rfl (uC_one y) ?_))
        go_roundw
        case rel => exact ⟨k + 1, by omega, by go_num, by rw [SN.out]; exact RK.out, NK.out, BK.out, UK.out⟩
        case measure => simp [intOf]; omega
      have hu := HU.out hok
      clear hok
      by_cases hm : y.txg % 4 = k
      rotate_left
      · have SN := Lib.hid (sortR_none (v := v) (k := k) (by rw [AT.out, hu]; show (if y.txg % 4 = k then some y else none) = none; rw [if_neg hm]))
        have bn : ((y.txg : Int) % 4 != (k : Int)) = true := by simp; omega
        clear hm hu
        go_wp2_with (first
          | ((with_reducible refine wg_alloc 27 ?_); refine wpList_alloc_blk rfl 27 rfl (uC zUb) zero_ub ?_)
          | ((with_reducible refine wg_store 27 (.tmp 5) (.tmp 29) ?_); refine ws_new w4 rfl 27 (.tmp 5) (.tmp 29) rfl (uC y) 27 (uC zUb) rfl rfl rfl (info_uV y) rfl (uC_one y) ?_))
        go_roundw
        case rel => exact ⟨k + 1, by omega, by go_num, by rw [SN.out]; exact RK.out, NK.out, BK.out, UK.out⟩
        case measure => simp [intOf]; omega
      have SN := Lib.hid (sortR_some (v := v) (k := k) (u := y) (by rw [AT.out, hu]; show (if y.txg % 4 = k then some y else none) = some y; rw [if_pos hm]))
      have bn : ((y.txg : Int) % 4 != (k : Int)) = false := by simp; omega
      have SL := sortR_length v k
      clear hm hu AT HU HU0
      generalize sortU (v.rawR k) = out at *
      obtain ⟨W5, hW5⟩ : ∃ x, x = w4.alloc (.cells (uC y) 27) := ⟨_, rfl⟩
      obtain ⟨oa, oc, rfl⟩ := RK.out.slice
      have UMK := up_alloc (w4.alloc (.cells (uC y) 27)) (.cells #[] 27)
      have OM := OwnRow.made ucells 7 27 (w4.alloc (.cells (uC y) 27)) (w4.heap.size + 1) (by rw [sz_alloc]; exact Nat.le_refl _)
      rw [sz_alloc] at OM
      have OM := Lib.hid OM
      have UMK := Lib.hid UMK
      go_wp2_with (first
        | ((with_reducible refine wg_alloc 27 ?_); refine wpList_alloc_blk rfl 27 rfl (uC zUb) zero_ub ?_)
        | ((with_reducible refine wg_store 27 (.tmp 5) (.tmp 29) ?_); refine ws_new w4 rfl 27 (.tmp 5) (.tmp 29) rfl (uC y) 27 (uC zUb) rfl rfl rfl (info_uV y) rfl (uC_one y) ?_))
      have HW5 := Lib.hid hW5
      have S5 := Lib.hid (show W5.heap.size = w4.heap.size + 1 by rw [hW5, sz_alloc])
      rw [← hW5] at BK RK NK UK BY OM UMK ⊢
      rw [← S5.out] at OM ⊢
      clear d0 i0 bn wk hW5
      go_loopw [7, 8, 44] (fun nv d i wr => ∃ (j : Nat) (dn : Bool) (nx : List UbD), j ≤ out.length ∧ i = .int .i64 j ∧ d = .bool dn ∧ OwnRow ucells 7 27 wr W5.heap.size nv nx ∧ InsTo y (out.take j) dn nx ∧ Up W5 wr) (fun _ _ i _ => out.length - (intOf i).toNat)
      case atStart => exact ⟨0, false, [], Nat.zero_le _, rfl, rfl, OM.out, insTo_nil _ _, UMK.out⟩
      case round =>
        obtain ⟨j, dn, nx, hj, rfl, rfl, ow, inT, ui⟩ := hrel
        have OW := Lib.hid ow
        have INT := Lib.hid inT
        have UI := Lib.hid ui
        clear ow inT ui OM UMK
        have NXL := Lib.hid (show nx.length ≤ 10 by have h1 := insTo_length INT.out; rw [List.length_take] at h1; omega)
        by_cases hlj : j < out.length
        · have b4 : ((j : Int) < (out.length : Int)) = True := by simp; omega
          obtain ⟨g, off, rfl, _, rg⟩ := ubs_at2 (RK.out.up UI.out) (by omega)
          have RG := Lib.hid (rg j hlj)
          have IH := Lib.hid (fun h h2 => insTo_here (u := y) (nx := nx) hlj h h2)
          have IN := Lib.hid (fun h h2 => insTo_not (u := y) (nx := nx) hlj h h2)
          have IP := Lib.hid (fun h => insTo_past (u := y) (nx := nx) hlj h)
          clear rg
          generalize out[j] = x at *
          have UX0 := up_alloc wr (.cells (uC x) 27)
          have OWL := Lib.hid OW.out.block_lt
          have OW := Lib.hid (OW.out.up UX0)
          have BX := Lib.hid (Blk.new wr 27 (uC x))
          have UI := Lib.hid (UI.out.trans UX0)
          obtain ⟨e0, _, _, _, _, _⟩ := uC_at BX.out
          obtain ⟨f0, _, _, _, _, _⟩ := uC_at (BY.out.up UI.out)
          have j0 : (uC x)[0]? = some (.int .u64 (x.txg : Int)) := rfl
          have BY' := Lib.hid (BY.out.up UI.out)
          clear UX0
          cases dn
          · by_cases hx : y.txg < x.txg
            · have b5 : ((y.txg : Int) < (x.txg : Int)) = True := by simp; omega
              have IT := Lib.hid (IH.out INT.out hx)
              clear hx
              have UXX := up_alloc (wr.alloc (.cells (uC x) 27)) (.cells (uC y) 27)
              have OX := Lib.hid (OW.out.up UXX)
              have RX := Lib.hid (IsRow.litAt (f := ucells) (wr.alloc (.cells (uC x) 27)) ((wr.alloc (.cells (uC x) 27)).heap.size) (by first | rfl | rw [sz_alloc]) (uC y) 27 (0, 0) [y] 1 rfl (by unfold maxLen; omega) (by simp [ucells]))
              have LB := Lib.hid (Nat.le_trans UI.out.size UXX.size)
              have UXX := Lib.hid UXX
              go_wp2_with (first
                | ((with_reducible refine wg_load 27 (.tmp 46) ?_); refine wl_part rfl 27 (.tmp 46) rfl g (off + j * 7) rfl (uC x) RG.out _ Try.underlying27 rfl (info_uV x) ?_)
                | ((with_reducible refine wg_alloc 27 ?_); refine wpList_alloc_blk rfl 27 rfl (uC zUb) zero_ub ?_)
                | ((with_reducible refine wg_store 27 (.tmp 10) (.tmp 47) ?_); refine ws_new wr rfl 27 (.tmp 10) (.tmp 47) rfl (uC x) 27 (uC zUb) rfl rfl rfl (info_uV x) rfl (uC_one x) ?_)
                | ((with_reducible refine wg_load 27 (.tmp 5) ?_); refine wpList_load_blkG rfl 27 (.tmp 5) rfl w4.heap.size rfl 27 _ BY'.out _ Try.underlying27 rfl (info_uV y) ?_)
                | ((with_reducible refine wg_slice 55 1 #[(0, .tmp 58)] ?_); refine wpList_buildSlice1 rfl 55 27 (.tmp 58) rfl _ 7 56 (uC y) rfl Try.underlying55 info_ub3 (by omega) (by omega) (uC_size _) ?_)
                | (at_builtin; go_loud (refine wpList_append_row uw rfl (.tmp 57) (.tmp 59) 55 rfl W5.heap.size 27 (.agg (uC zUb)) 56 Try.underlying55 info_ub3 (uC_size _) _ (nx) rfl OX.out _ [y] rfl RX.out (by have h1 := NXL.out; show (_ + 1) * 56 ≤ _; omega) (by have h1 := NXL.out; show _ + 1 ≤ _; omega) LB.out ?_)))
              intro v6 w6 own6 g6 b6
              have OW := Lib.hid own6
              have UI := Lib.hid ((UI.out.trans UXX.out).below_trans b6 (Nat.le_refl _))
              clear own6 b6 OX RX LB
              have BX6 := Lib.hid ((BX.out.up UXX.out).grown g6 (fun hh => by have := (OWL.out _ hh).2; omega))
              have NXL := Lib.hid (show (nx ++ [y]).length ≤ 11 by have := NXL.out; simp; omega)
              clear g6 UXX e0 f0 j0
              have UXX := up_alloc (w6) (.cells (uC x) 27)
              have OX := Lib.hid (OW.out.up UXX)
              have RX := Lib.hid (IsRow.litAt (f := ucells) (w6) (w6.heap.size) (by first | rfl | rw [sz_alloc]) (uC x) 27 (0, 0) [x] 1 rfl (by unfold maxLen; omega) (by simp [ucells]))
              have LB := Lib.hid (Nat.le_trans UI.out.size UXX.size)
              have UXX := Lib.hid UXX
              go_wp2_with (first
                | ((with_reducible refine wg_load 27 (.tmp 10) ?_); refine wpList_load_blkG rfl 27 (.tmp 10) rfl wr.heap.size rfl 27 _ BX6.out _ Try.underlying27 rfl (info_uV x) ?_)
                | ((with_reducible refine wg_slice 55 1 #[(0, .tmp 62)] ?_); refine wpList_buildSlice1 rfl 55 27 (.tmp 62) rfl _ 7 56 (uC x) rfl Try.underlying55 info_ub3 (by omega) (by omega) (uC_size _) ?_)
                | (at_builtin; go_loud (refine wpList_append_row uw rfl (.tmp 61) (.tmp 63) 55 rfl W5.heap.size 27 (.agg (uC zUb)) 56 Try.underlying55 info_ub3 (uC_size _) _ (nx ++ [y]) rfl OX.out _ [x] rfl RX.out (by have h1 := NXL.out; show (_ + 1) * 56 ≤ _; omega) (by have h1 := NXL.out; show _ + 1 ≤ _; omega) LB.out ?_)))
              intro v7 w7 own7 g7 b7
              have OW := Lib.hid own7
              have UI := Lib.hid ((UI.out.trans UXX.out).below_trans b7 (Nat.le_refl _))
              clear own7 b7 OX RX LB
              go_wp2_with fail
              go_roundw
              case rel => exact ⟨j + 1, true, _, by omega, by go_num, rfl, OW.out, (by have h1 := IT.out; rw [List.append_assoc] at h1; exact h1), UI.out⟩
              case measure => simp [intOf]; omega
            · have b5 : ((y.txg : Int) < (x.txg : Int)) = False := by simp; omega
              have IT := Lib.hid (IN.out INT.out hx)
              clear hx
              have UXX := up_alloc (wr.alloc (.cells (uC x) 27)) (.cells (uC x) 27)
              have OX := Lib.hid (OW.out.up UXX)
              have RX := Lib.hid (IsRow.litAt (f := ucells) (wr.alloc (.cells (uC x) 27)) ((wr.alloc (.cells (uC x) 27)).heap.size) (by first | rfl | rw [sz_alloc]) (uC x) 27 (0, 0) [x] 1 rfl (by unfold maxLen; omega) (by simp [ucells]))
              have LB := Lib.hid (Nat.le_trans UI.out.size UXX.size)
              have UXX := Lib.hid UXX
              go_wp2_with (first
                | ((with_reducible refine wg_load 27 (.tmp 46) ?_); refine wl_part rfl 27 (.tmp 46) rfl g (off + j * 7) rfl (uC x) RG.out _ Try.underlying27 rfl (info_uV x) ?_)
                | ((with_reducible refine wg_alloc 27 ?_); refine wpList_alloc_blk rfl 27 rfl (uC zUb) zero_ub ?_)
                | ((with_reducible refine wg_store 27 (.tmp 10) (.tmp 47) ?_); refine ws_new wr rfl 27 (.tmp 10) (.tmp 47) rfl (uC x) 27 (uC zUb) rfl rfl rfl (info_uV x) rfl (uC_one x) ?_)
                | ((with_reducible refine wg_load 27 (.tmp 10) ?_); refine wpList_load_blkG rfl 27 (.tmp 10) rfl wr.heap.size rfl 27 _ BX.out _ Try.underlying27 rfl (info_uV x) ?_)
                | ((with_reducible refine wg_slice 55 1 #[(0, .tmp 62)] ?_); refine wpList_buildSlice1 rfl 55 27 (.tmp 62) rfl _ 7 56 (uC x) rfl Try.underlying55 info_ub3 (by omega) (by omega) (uC_size _) ?_)
                | (at_builtin; go_loud (refine wpList_append_row uw rfl (.tmp 61) (.tmp 63) 55 rfl W5.heap.size 27 (.agg (uC zUb)) 56 Try.underlying55 info_ub3 (uC_size _) _ (nx) rfl OX.out _ [x] rfl RX.out (by have h1 := NXL.out; show (_ + 1) * 56 ≤ _; omega) (by have h1 := NXL.out; show _ + 1 ≤ _; omega) LB.out ?_)))
              intro v6 w6 own6 g6 b6
              have OW := Lib.hid own6
              have UI := Lib.hid ((UI.out.trans UXX.out).below_trans b6 (Nat.le_refl _))
              clear own6 b6 OX RX LB
              clear g6 UXX e0 f0 j0
              go_wp2_with fail
              go_roundw
              case rel => exact ⟨j + 1, false, _, by omega, by go_num, rfl, OW.out, IT.out, UI.out⟩
              case measure => simp [intOf]; omega
          · have IT := Lib.hid (IP.out INT.out)
            have UXX := up_alloc (wr.alloc (.cells (uC x) 27)) (.cells (uC x) 27)
            have OX := Lib.hid (OW.out.up UXX)
            have RX := Lib.hid (IsRow.litAt (f := ucells) (wr.alloc (.cells (uC x) 27)) ((wr.alloc (.cells (uC x) 27)).heap.size) (by first | rfl | rw [sz_alloc]) (uC x) 27 (0, 0) [x] 1 rfl (by unfold maxLen; omega) (by simp [ucells]))
            have LB := Lib.hid (Nat.le_trans UI.out.size UXX.size)
            have UXX := Lib.hid UXX
            go_wp2_with (first
              | ((with_reducible refine wg_load 27 (.tmp 46) ?_); refine wl_part rfl 27 (.tmp 46) rfl g (off + j * 7) rfl (uC x) RG.out _ Try.underlying27 rfl (info_uV x) ?_)
              | ((with_reducible refine wg_alloc 27 ?_); refine wpList_alloc_blk rfl 27 rfl (uC zUb) zero_ub ?_)
              | ((with_reducible refine wg_store 27 (.tmp 10) (.tmp 47) ?_); refine ws_new wr rfl 27 (.tmp 10) (.tmp 47) rfl (uC x) 27 (uC zUb) rfl rfl rfl (info_uV x) rfl (uC_one x) ?_)
              | ((with_reducible refine wg_load 27 (.tmp 10) ?_); refine wpList_load_blkG rfl 27 (.tmp 10) rfl wr.heap.size rfl 27 _ BX.out _ Try.underlying27 rfl (info_uV x) ?_)
              | ((with_reducible refine wg_slice 55 1 #[(0, .tmp 62)] ?_); refine wpList_buildSlice1 rfl 55 27 (.tmp 62) rfl _ 7 56 (uC x) rfl Try.underlying55 info_ub3 (by omega) (by omega) (uC_size _) ?_)
              | (at_builtin; go_loud (refine wpList_append_row uw rfl (.tmp 61) (.tmp 63) 55 rfl W5.heap.size 27 (.agg (uC zUb)) 56 Try.underlying55 info_ub3 (uC_size _) _ (nx) rfl OX.out _ [x] rfl RX.out (by have h1 := NXL.out; show (_ + 1) * 56 ≤ _; omega) (by have h1 := NXL.out; show _ + 1 ≤ _; omega) LB.out ?_)))
            intro v6 w6 own6 g6 b6
            have OW := Lib.hid own6
            have UI := Lib.hid ((UI.out.trans UXX.out).below_trans b6 (Nat.le_refl _))
            clear own6 b6 OX RX LB
            clear g6 UXX e0 f0 j0
            go_wp2_with fail
            go_roundw
            case rel => exact ⟨j + 1, true, _, by omega, by go_num, rfl, OW.out, IT.out, UI.out⟩
            case measure => simp [intOf]; omega
        · obtain rfl : j = out.length := by omega
          have b4 : ((out.length : Int) < (out.length : Int)) = False := by simp
          have IE := Lib.hid (insTo_end INT.out)
          have WS := Lib.hid (show w.heap.size ≤ W5.heap.size from UK.out.size)
          cases dn
          · have IE := Lib.hid (show nx ++ [y] = insU y out from IE.out)
            have BY' := Lib.hid (BY.out.up UI.out)
            have UXX := up_alloc (wr) (.cells (uC y) 27)
            have OX := Lib.hid (OW.out.up UXX)
            have RX := Lib.hid (IsRow.litAt (f := ucells) (wr) (wr.heap.size) (by first | rfl | rw [sz_alloc]) (uC y) 27 (0, 0) [y] 1 rfl (by unfold maxLen; omega) (by simp [ucells]))
            have LB := Lib.hid (Nat.le_trans UI.out.size UXX.size)
            have UXX := Lib.hid UXX
            go_wp2_with (first
              | ((with_reducible refine wg_load 27 (.tmp 5) ?_); refine wpList_load_blkG rfl 27 (.tmp 5) rfl w4.heap.size rfl 27 _ BY'.out _ Try.underlying27 rfl (info_uV y) ?_)
              | ((with_reducible refine wg_slice 55 1 #[(0, .tmp 69)] ?_); refine wpList_buildSlice1 rfl 55 27 (.tmp 69) rfl _ 7 56 (uC y) rfl Try.underlying55 info_ub3 (by omega) (by omega) (uC_size _) ?_)
              | (at_builtin; go_loud (refine wpList_append_row uw rfl (.tmp 68) (.tmp 70) 55 rfl W5.heap.size 27 (.agg (uC zUb)) 56 Try.underlying55 info_ub3 (uC_size _) _ (nx) rfl OX.out _ [y] rfl RX.out (by have h1 := NXL.out; show (_ + 1) * 56 ≤ _; omega) (by have h1 := NXL.out; show _ + 1 ≤ _; omega) LB.out ?_)))
            intro v6 w6 own6 g6 b6
            have OW := Lib.hid own6
            have UI := Lib.hid ((UI.out.trans UXX.out).below_trans b6 (Nat.le_refl _))
            clear own6 b6 OX RX LB
            clear g6 UXX
            rw [IE.out] at OW
            go_wp2_with fail
            go_roundw
            case rel => exact ⟨k + 1, by omega, by go_num, by rw [SN.out]; exact OW.out.row uw, fun b hb => ⟨by have := (OW.out.block_lt b hb).1; have := WS.out; omega, (OW.out.block_lt b hb).2⟩, BK.out.up UI.out, UK.out.trans UI.out⟩
            case measure => simp [intOf]; omega
          · have IE := Lib.hid (show nx = insU y out from IE.out)
            rw [IE.out] at OW
            go_wp2_with fail
            go_roundw
            case rel => exact ⟨k + 1, by omega, by go_num, by rw [SN.out]; exact OW.out.row uw, fun b hb => ⟨by have := (OW.out.block_lt b hb).1; have := WS.out; omega, (OW.out.block_lt b hb).2⟩, BK.out.up UI.out, UK.out.trans UI.out⟩
            case measure => simp [intOf]; omega
    · obtain rfl : k = 4 := by omega
      have b3 : (((4 : Nat) : Int) < 4) = False := by simp
      obtain ⟨fa, fc, rfl⟩ := RK.out.slice
      go_wp2_with fail
      go_ret
      exact ⟨fa, _, fc, rfl, RK.out, NK.out, UK.out⟩
set_option maxRecDepth 100000 in
set_option maxHeartbeats 8000000 in
theorem rbest_any (w : World) (s p : Sl) (o : Int) (v : DevD) (R : RDv w s p v) :
    Calls Try.prog 30 #[.agg (rdC s p o v.left v.dead)] w fun e w' => e = .returned (.tuple #[.agg (uC (v.bestR.getD zUb)), .bool v.bestR.isSome]) ∧ Up w w' := by
  have UA := up_alloc w (.cells (rdC s p o v.left v.dead) 61)
  have UA2 := up_alloc (w.alloc (.cells (rdC s p o v.left v.dead) 61)) (.cells (uC zUb) 27)
  have B1 := Lib.hid ((Blk.new w 61 (rdC s p o v.left v.dead)).up UA2)
  have z1 := Blk.new (w.alloc (.cells (rdC s p o v.left v.dead) 61)) 27 (uC zUb)
  rw [sz_alloc] at z1
  have Z1 := Lib.hid z1
  have U1 := Lib.hid (UA.trans UA2)
  have LS := Lib.hid (rlist_any _ s p o v (R.up U1.out))
  have BB := Lib.hid (show v.bestR = v.ringR.getLast? from rfl)
  clear R UA UA2 z1
  go_enter Try.func30, Try.ntmps30
  go_wp2_with (first
    | ((with_reducible refine wg_alloc 27 ?_); refine wpList_alloc_blk rfl 27 rfl (uC zUb) zero_ub ?_)
    | ((with_reducible refine wg_load 61 (.tmp 1) ?_); refine wpList_load_blkG rfl 61 (.tmp 1) rfl w.heap.size rfl 61 _ B1.out _ Try.underlying61 rfl (info_rd _ _ _ _ _) ?_))
  refine LS.out.mono ?_
  rintro e w3 ⟨a, n, c, rfl, IR, FR, U3⟩
  have Z3 := Lib.hid (Z1.out.up U3)
  have U13 := Lib.hid (U1.out.trans U3)
  have IR := Lib.hid IR
  obtain ⟨l, hl⟩ : ∃ l, l = v.ringR := ⟨_, rfl⟩
  rw [← hl] at IR BB
  clear U3 U1 Z1 LS hl FR B1
  obtain rfl : n = l.length := by obtain ⟨_, _, h⟩ := IR.out.slice; simp at h; exact h.2.1
  by_cases h0 : l.length = 0
  · have HB := Lib.hid (show v.bestR = none by rw [BB.out, List.length_eq_zero_iff.1 h0]; rfl)
    rw [h0]
    clear h0 IR BB
    go_wp2_with (first
      | ((with_reducible refine wg_build 27 #[] ?_); refine wpList_build0 rfl 27 rfl (uC zUb) built_ub0 ?_)
      | ((with_reducible refine wg_store 27 (.tmp 2) (.tmp 10) ?_); refine wpList_store_blk rfl 27 (.tmp 2) (.tmp 10) rfl (w.heap.size + 1) (uC zUb) rfl rfl 27 (uC zUb) Z3.out (info_uV zUb) rfl (uC_one zUb) ?_))
    intro w9 b9 g9
    have U9 := Up.grown U13.out g9 (fun k hk => by cases hk; omega)
    go_wp2_with fail
    (try simp only [Exit.inBlock, Exit.then])
    exact bodyPost_ret (v := .tuple #[.agg (uC zUb), .bool false]) (results_blk rfl _ _ _ (w.heap.size + 1) 27 _ _ rfl rfl b9 _ Try.underlying27 rfl (info_uV zUb)) rfl ⟨by rw [HB.out]; rfl, U9⟩
  obtain ⟨m, hm⟩ : ∃ m, l.length = m + 1 := ⟨l.length - 1, by omega⟩
  have hml : m < l.length := by omega
  obtain ⟨b, off, rfl, _, _, hc⟩ := IsRow.get IR.out uw (by omega)
  have RG := Lib.hid (show w3.rangeAt b (off + m * 7) (uC l[m]).toList from fun j u hj => by
    have := hc m hml j u hj
    rwa [show off + (m * 7 + j) = off + m * 7 + j by omega] at this)
  have HB := Lib.hid (show v.bestR = some l[m] by
    rw [BB.out, List.getLast?_eq_getElem?, hm, Nat.add_sub_cancel, List.getElem?_eq_getElem hml])
  have hlen := IR.out.length_le
  generalize l[m] = u at *
  rw [hm] at hlen ⊢
  have b1 : (((m + 1 : Nat) : Int) == 0) = false := by simp; omega
  have wm : ((m + 1 : Nat) : Int) - 1 = (m : Int) := by omega
  have mlt : m < m + 1 := by omega
  obtain ⟨n, hn⟩ : ∃ n, n = m + 1 := ⟨_, rfl⟩
  rw [← hn] at b1 wm hlen mlt ⊢
  have wmm := wrap_i64_nat m (by omega)
  clear hm hml hc h0 IR BB hn
  go_wp2_with (first
    | ((with_reducible refine wg_load 27 (.tmp 15) ?_); refine wl_part rfl 27 (.tmp 15) rfl b (off + m * 7) rfl (uC u) RG.out _ Try.underlying27 rfl (info_uV u) ?_)
    | ((with_reducible refine wg_store 27 (.tmp 2) (.tmp 16) ?_); refine wpList_store_blk rfl 27 (.tmp 2) (.tmp 16) rfl (w.heap.size + 1) (uC u) rfl rfl 27 (uC zUb) Z3.out (info_uV u) rfl (uC_one u) ?_))
  intro w9 b9 g9
  have U9 := Up.grown U13.out g9 (fun k hk => by cases hk; omega)
  go_wp2_with fail
  (try simp only [Exit.inBlock, Exit.then])
  exact bodyPost_ret (v := .tuple #[.agg (uC u), .bool true]) (results_blk rfl _ _ _ (w.heap.size + 1) 27 _ _ rfl rfl b9 _ Try.underlying27 rfl (info_uV u)) rfl ⟨by rw [HB.out]; rfl, U9⟩
/-- The newest of each sector is what the pending writes make of it. -/
def NewInv (v : DevD) : Prop := v.newest = applyW v.stable v.pend
theorem nowF_at (i : Nat) : ∀ (ws : List WrD) (l : List Sec), i < l.length → nowF (i : Int) ws (l.getD i zSec) = (applyW l ws).getD i zSec
  | [], l, _ => rfl
  | x :: ws, l, hi => by
    show nowF (i : Int) ws (if (x.loc : Int) = (i : Int) then x.s else l.getD i zSec) = (applyW (l.set x.loc x.s) ws).getD i zSec
    rw [← nowF_at i ws (l.set x.loc x.s) (by rw [List.length_set]; exact hi)]
    congr 1
    rw [List.getD_eq_getElem?_getD, List.getD_eq_getElem?_getD, List.getElem?_set]
    by_cases hx : x.loc = i
    · subst hx
      rw [if_pos rfl, if_pos rfl, if_pos hi]
      rfl
    · rw [if_neg (by omega), if_neg hx]
theorem atR_eq {v : DevD} (h : NewInv v) (i : Nat) : v.atR i = v.atU i := by
  unfold DevD.atR DevD.atU
  cases hb : v.hasB (i : Int)
  · have : v.readE (i : Int) ≠ 0 := by unfold DevD.readE; rw [if_neg (by rw [hb]; simp)]; omega
    rw [if_neg (by simp), if_neg this]
  · cases hd : v.dead
    · have h1 : v.readE (i : Int) = 0 := by unfold DevD.readE; rw [if_pos hb, if_neg (by rw [hd]; simp)]
      have h2 : v.readS (i : Int) = nowF (i : Int) v.pend (v.stableAt (i : Int)) := by
        have hi : i < v.stable.length := by have := (hasB_iff _ _).1 hb; omega
        unfold DevD.readS DevD.nowAt DevD.stableAt
        rw [if_neg (by rw [hd]; simp), if_pos hb, if_pos hb, Int.toNat_natCast, nowF_at i _ _ hi, ← h]
      rw [if_pos ⟨rfl, rfl⟩, if_pos h1, h2]
    · have : v.readE (i : Int) ≠ 0 := by unfold DevD.readE; rw [if_pos hb, if_pos hd]; omega
      rw [if_neg (by simp), if_neg this]
theorem ringR_eq {v : DevD} (h : NewInv v) : v.ringR = v.ringU := by
  have e : ∀ k, v.rawR k = v.rawU k := fun k => by
    induction k with
    | zero => rfl
    | succ k ih => rw [DevD.rawR, DevD.rawU, ih, atR_eq h]
  unfold DevD.ringR DevD.ringU
  rw [e]
theorem bestR_eq {v : DevD} (h : NewInv v) : v.bestR = v.bestU := by
  unfold DevD.bestR DevD.bestU
  rw [ringR_eq h]
theorem NewInv.same {v : DevD} (h : NewInv v) {v' : DevD} (h1 : v'.stable = v.stable) (h2 : v'.newest = v.newest) (h3 : v'.pend = v.pend) : NewInv v' := by
  unfold NewInv
  rw [h1, h2, h3]
  exact h
theorem NewInv.counts {v : DevD} (h : NewInv v) (k : Nat) : NewInv (v.counts k) := h.same (counts_same v k).1 (counts_same v k).2.1 (counts_same v k).2.2.1
theorem NewInv.flush {v : DevD} (h : NewInv v) : NewInv v.flushed := by
  obtain ⟨h1, h2, h3⟩ := spent_same v.counted
  unfold DevD.flushed
  split
  · show v.counted.spent.newest = applyW (applyW v.stable v.pend) []
    rw [h3]
    exact h
  · exact h.same h2 h3 h1
theorem NewInv.write {v : DevD} (h : NewInv v) (i : Int) (s : Sec) : NewInv (v.written i s) := by
  obtain ⟨h1, h2, h3⟩ := spent_same v.counted
  unfold DevD.written
  split
  · split
    · show v.counted.spent.newest.set i.toNat s = applyW v.counted.spent.stable (v.counted.spent.pend ++ [⟨i.toNat, s⟩])
      rw [h3, h2, h1]
      unfold applyW
      rw [List.foldl_append]
      have h : v.counted.newest = v.counted.pend.foldl (fun l x => l.set x.loc x.s) v.counted.stable := h
      rw [h]
      rfl
    · exact h.same h2 h3 h1
  · exact h.same rfl rfl rfl
theorem NewInv.commit {v : DevD} (h : NewInv v) (u : UbD) : NewInv (v.committed u) := by
  unfold DevD.committed DevD.commit1
  split
  · split
    · split
      · exact (h.flush.write _ _).flush
      · exact h.flush.write _ _
    · exact h.flush
  · exact h
theorem NewInv.crash (v : DevD) (ks : List Bool) : NewInv (v.crashed ks) := rfl
theorem NewInv.new (n : Nat) : NewInv (newD n) := rfl
set_option maxRecDepth 100000 in
set_option maxHeartbeats 8000000 in
theorem rcommit_any (w : World) (s p : Sl) (o : Int) (v : DevD) (R : RDv w s p v) (u : UbD) (hwf : u.wf) (hr : v.pend.length ≤ 10000) :
    Calls Try.prog 27 #[.agg (rdC s p o v.left v.dead), .agg (uC u)] w fun e w' => RPostE w s p (v.committed u) (.int .i64 (v.commitE u)) e w' := by
  have ux1 := up_alloc w (.cells (rdC s p o v.left v.dead) 61)
  have ux2 := up_alloc (w.alloc (.cells (rdC s p o v.left v.dead) 61)) (.cells (uC u) 27)
  have ux3 := up_alloc ((w.alloc (.cells (rdC s p o v.left v.dead) 61)).alloc (.cells (uC u) 27)) (.cells (rdC nilS nilS 0 0 false) 61)
  have B1 := Lib.hid ((Blk.new w 61 (rdC s p o v.left v.dead)).up (ux2.trans ux3))
  have s1 := (Blk.new (w.alloc (.cells (rdC s p o v.left v.dead) 61)) 27 (uC u)).up ux3
  have z1 := Blk.new ((w.alloc (.cells (rdC s p o v.left v.dead) 61)).alloc (.cells (uC u) 27)) 61 (rdC nilS nilS 0 0 false)
  rw [sz_alloc] at s1 z1
  rw [sz_alloc] at z1
  have S1 := Lib.hid s1
  have Z1 := Lib.hid z1
  have U1 := Lib.hid (ux1.trans (ux2.trans ux3))
  have HR := Lib.hid R
  have HPR := Lib.hid hr
  have CE := Lib.hid (show v.commitE u = if rightU u = true then (if v.flushE = 0 then (if v.flushed.writeE ((u.txg % 4 : Nat) : Int) = 0 then (v.commit1 u).flushE else v.flushed.writeE ((u.txg % 4 : Nat) : Int)) else v.flushE) else 61 from rfl)
  have CD := Lib.hid (show v.committed u = if rightU u = true then (if v.flushE = 0 then (if v.flushed.writeE ((u.txg % 4 : Nat) : Int) = 0 then (v.commit1 u).flushed else v.commit1 u) else v.flushed) else v from rfl)
  have C1 := Lib.hid (show v.commit1 u = (v.flushed).written ((u.txg % 4 : Nat) : Int) (ubV u) from rfl)
  have BY := Lib.hid (fun W => urefBytes_any W u hwf)
  have FP := Lib.hid (flushed_pend (v := v))
  have wr := wrap_i64_nat (u.txg % 4) (by omega)
  rw [show ((u.txg % 4 : Nat) : Int) = (u.txg : Int) % 4 by omega] at wr
  clear R ux1 ux2 ux3 s1 z1 hr
  go_enter Try.func27, Try.ntmps27
  go_wp2_with (first
    | ((with_reducible refine wg_alloc 61 ?_); refine wpList_alloc_blk rfl 61 rfl (rdC nilS nilS 0 0 false) zero_rd ?_)
    | ((with_reducible refine wg_load 27 (.tmp 3) ?_); refine wpList_load_blkG rfl 27 (.tmp 3) rfl (w.heap.size + 1) rfl 27 _ S1.out _ Try.underlying27 rfl (info_uV u) ?_))
  refine (BY.out _).mono ?_
  rintro e w3 ⟨rfl, U3⟩
  have UX := U3.trans (up_alloc w3 (.cells (secC (ubV u).val) 34))
  have B3 := Lib.hid (B1.out.up UX)
  have S3 := Lib.hid (S1.out.up UX)
  have Z3 := Lib.hid (Z1.out.up UX)
  have UU3 := Lib.hid (U1.out.trans UX)
  have X3 := Lib.hid (Blk.new w3 34 (secC (ubV u).val))
  have LT3 := Lib.hid (show w.heap.size + 1 + 1 < w3.heap.size from (Z1.out.up U3).lt)
  clear U3 UX B1 S1 Z1 U1 BY
  cases hr : rightU u
  · have VV := Lib.hid (show v.committed u = v by rw [CD.out, hr]; rfl)
    have VE := Lib.hid (show v.commitE u = 61 by rw [CE.out, hr]; rfl)
    have UE : ubE u = 61 := by unfold ubE; rw [hr]; rfl
    rw [UE]
    clear hr UE wr
    go_wp2_with (first
      | ((with_reducible refine wg_alloc 34 ?_); refine wpList_alloc_blk rfl 34 rfl (secC zeroS) zero_sec ?_)
      | ((with_reducible refine wg_store 34 (.tmp 6) (.tmp 11) ?_); refine ws_new w3 rfl 34 (.tmp 6) (.tmp 11) rfl (secC (ubV u).val) 34 (secC zeroS) rfl rfl rfl (info_secW (ubV u)) (secZ (ubV u)) (secC_one _) ?_)
      | ((with_reducible refine wg_load 61 (.tmp 2) ?_); refine wpList_load_blkG rfl 61 (.tmp 2) rfl w.heap.size rfl 61 _ B3.out _ Try.underlying61 rfl (info_rd _ _ _ _ _) ?_)
      | ((with_reducible refine wg_store 61 (.tmp 4) (.tmp 15) ?_); refine wpList_store_blk rfl 61 (.tmp 4) (.tmp 15) rfl (w.heap.size + 1 + 1) (rdC s p o v.left v.dead) rfl rfl 61 _ Z3.out (info_rd _ _ _ _ _) rfl (rdC_one _ _ _ _ _) ?_))
    intro w9 b9 g9
    have U9 := Up.grown UU3.out g9 (fun k hk => by cases hk; omega)
    go_wp2_with fail
    (try simp only [Exit.inBlock, Exit.then])
    refine bodyPost_ret (v := .tuple #[.agg (rdC s p o v.left v.dead), .int .i64 61]) (results_blk rfl _ _ _ (w.heap.size + 1 + 1) 61 _ _ rfl rfl b9 _ Try.underlying61 rfl (info_rd _ _ _ _ _)) rfl ?_
    exact ⟨s, p, o, by rw [VV.out, VE.out], by rw [VV.out]; exact HR.out.up U9, U9, Kept.refl _ _ _⟩
  have UE : ubE u = 0 := by unfold ubE; rw [hr]; rfl
  have HRU := Lib.hid hr
  rw [UE]
  obtain ⟨W3, hW3⟩ : ∃ x, x = w3.alloc (.cells (secC (ubV u).val) 34) := ⟨_, rfl⟩
  have FL := rflush_any W3 s p o v (HR.out.up (by rw [hW3]; exact UU3.out))
  rw [hW3] at FL
  have FL := Lib.hid FL
  clear hr UE hW3 W3
  go_wp2_with (first
    | ((with_reducible refine wg_alloc 34 ?_); refine wpList_alloc_blk rfl 34 rfl (secC zeroS) zero_sec ?_)
    | ((with_reducible refine wg_store 34 (.tmp 6) (.tmp 11) ?_); refine ws_new w3 rfl 34 (.tmp 6) (.tmp 11) rfl (secC (ubV u).val) 34 (secC zeroS) rfl rfl rfl (info_secW (ubV u)) (secZ (ubV u)) (secC_one _) ?_)
    | ((with_reducible refine wg_load 61 (.tmp 2) ?_); refine wpList_load_blkG rfl 61 (.tmp 2) rfl w.heap.size rfl 61 _ B3.out _ Try.underlying61 rfl (info_rd _ _ _ _ _) ?_))
  refine FL.out.mono ?_
  rintro e w4 ⟨s4, p4, o4, rfl, R4, U4, K4⟩
  have B4 := Lib.hid (B3.out.up U4)
  have S4 := Lib.hid (S3.out.up U4)
  have Z4 := Lib.hid (Z3.out.up U4)
  have X4 := Lib.hid (X3.out.up U4)
  have UU4 := Lib.hid (UU3.out.trans U4)
  have K4 := Lib.hid (show ∀ b, (s4.v.ownBlock = some b ∨ p4.v.ownBlock = some b) → (s.v.ownBlock = some b ∨ p.v.ownBlock = some b) ∨ w.heap.size + 1 + 1 < b from fun b hb => (K4 b hb).imp id (fun h => by rw [sz_alloc] at h; have := LT3.out; omega))
  have R4 := Lib.hid R4
  clear FL U4 B3 S3 Z3 X3 UU3
  go_wp2_with (first
    | ((with_reducible refine wg_store 61 (.tmp 2) (.tmp 20) ?_); refine wpList_store_blk rfl 61 (.tmp 2) (.tmp 20) rfl w.heap.size (rdC s4 p4 o4 v.flushed.left v.flushed.dead) rfl rfl 61 _ B4.out (info_rd _ _ _ _ _) rfl (rdC_one _ _ _ _ _) ?_))
  intro w5 b5 g5
  have AP := Lib.hid (show ∀ s' p' : Sl, (∀ b, (s'.v.ownBlock = some b ∨ p'.v.ownBlock = some b) → (s.v.ownBlock = some b ∨ p.v.ownBlock = some b) ∨ w.heap.size + 1 + 1 < b) → ∀ b, (s'.v.ownBlock = some b ∨ p'.v.ownBlock = some b) → b ≠ w.heap.size ∧ b ≠ w.heap.size + 1 + 1 from fun s' p' hk b hb => by
    rcases hk b hb with (h1 | h1) | h1
    · have := HR.out.sb b h1; omega
    · have := HR.out.pb b h1; omega
    · omega)
  have R5 := Lib.hid (R4.out.grown g5 (fun b hb => (AP.out s4 p4 K4.out b hb).1))
  have B5 := Lib.hid b5
  have S5 := Lib.hid (S4.out.grown g5 (by intro h; have := Option.some.inj h; omega))
  have Z5 := Lib.hid (Z4.out.grown g5 (by intro h; have := Option.some.inj h; omega))
  have X5 := Lib.hid (X4.out.grown g5 (by intro h; have := Option.some.inj h; have := LT3.out; omega))
  have U5 := Lib.hid (Up.grown UU4.out g5 (fun k hk => by cases hk; omega))
  clear b5 g5 B4 S4 Z4 X4 UU4 R4
  by_cases fe : v.flushE = 0
  rotate_left
  · have VV := Lib.hid (show v.committed u = v.flushed by rw [CD.out, HRU.out, if_pos rfl, if_neg fe])
    have VE := Lib.hid (show v.commitE u = v.flushE by rw [CE.out, HRU.out, if_pos rfl, if_neg fe])
    have bf : (v.flushE != 0) = true := by simp; exact fe
    generalize v.flushE = fE at *
    clear fe wr
    go_wp2_with (first
      | ((with_reducible refine wg_load 61 (.tmp 2) ?_); refine wpList_load_blkG rfl 61 (.tmp 2) rfl w.heap.size rfl 61 _ B5.out _ Try.underlying61 rfl (info_rd _ _ _ _ _) ?_)
      | ((with_reducible refine wg_store 61 (.tmp 4) (.tmp 24) ?_); refine wpList_store_blk rfl 61 (.tmp 4) (.tmp 24) rfl (w.heap.size + 1 + 1) (rdC s4 p4 o4 v.flushed.left v.flushed.dead) rfl rfl 61 _ Z5.out (info_rd _ _ _ _ _) rfl (rdC_one _ _ _ _ _) ?_))
    intro w9 b9 g9
    have U9 := Up.grown U5.out g9 (fun k hk => by cases hk; omega)
    go_wp2_with fail
    (try simp only [Exit.inBlock, Exit.then])
    refine bodyPost_ret (v := .tuple #[.agg (rdC s4 p4 o4 v.flushed.left v.flushed.dead), .int .i64 fE]) (results_blk rfl _ _ _ (w.heap.size + 1 + 1) 61 _ _ rfl rfl b9 _ Try.underlying61 rfl (info_rd _ _ _ _ _)) rfl ?_
    exact ⟨s4, p4, o4, by rw [VV.out, VE.out], by rw [VV.out]; exact R5.out.grown g9 (fun b hb => (AP.out s4 p4 K4.out b hb).2), U9, fun b hb => (K4.out b hb).imp id (fun h => by omega)⟩
  have bf : (v.flushE != 0) = false := by simp; exact fe
  have VV := Lib.hid (show v.committed u = if v.flushed.writeE ((u.txg % 4 : Nat) : Int) = 0 then (v.commit1 u).flushed else v.commit1 u by rw [CD.out, HRU.out, if_pos rfl, if_pos fe])
  have VE := Lib.hid (show v.commitE u = if v.flushed.writeE ((u.txg % 4 : Nat) : Int) = 0 then (v.commit1 u).flushE else v.flushed.writeE ((u.txg % 4 : Nat) : Int) by rw [CE.out, HRU.out, if_pos rfl, if_pos fe])
  have hix : ((u.txg % 4 : Nat) : Int) = (u.txg : Int) % 4 := by omega
  have PT := Lib.hid (show Calls Try.prog 56 #[.agg (rdC s4 p4 o4 v.flushed.left v.flushed.dead), .int .i64 ((u.txg : Int) % 4), .agg (secC (ubV u).val)] w5 (fun e w' => RPostE w5 s4 p4 (v.commit1 u) (.int .i64 (v.flushed.writeE ((u.txg % 4 : Nat) : Int))) e w') from by
    rw [C1.out, ← hix]
    exact rput_any w5 s4 p4 o4 v.flushed R5.out _ (ubV u) (by have := FP.out; have := HPR.out; omega))
  obtain ⟨d0, _, _, _, _, _⟩ := uC_at (show Blk w5 (w.heap.size + 1) 27 (uC ⟨u.txg, u.stamp, u.tab, u.len, u.sec⟩) from S5.out)
  clear CD CE fe hix
  generalize v.flushed.writeE ((u.txg % 4 : Nat) : Int) = wE at *
  go_wp2_with (first
    | ((with_reducible refine wg_load 61 (.tmp 2) ?_); refine wpList_load_blkG rfl 61 (.tmp 2) rfl w.heap.size rfl 61 _ B5.out _ Try.underlying61 rfl (info_rd _ _ _ _ _) ?_)
    | ((with_reducible refine wg_load 34 (.tmp 6) ?_); refine wpList_load_blkG rfl 34 (.tmp 6) rfl w3.heap.size rfl 34 _ X5.out _ Try.underlying34 rfl (info_secW (ubV u)) ?_))
  refine PT.out.mono ?_
  rintro e w6 ⟨s6, p6, o6, rfl, R6, U6, K6⟩
  have B6 := Lib.hid (B5.out.up U6)
  have Z6 := Lib.hid (Z5.out.up U6)
  have UU6 := Lib.hid (U5.out.trans U6)
  have LT5 := Lib.hid (show w.heap.size + 1 + 1 < w5.heap.size from Z5.out.lt)
  have K6 := Lib.hid (show ∀ b, (s6.v.ownBlock = some b ∨ p6.v.ownBlock = some b) → (s.v.ownBlock = some b ∨ p.v.ownBlock = some b) ∨ w.heap.size + 1 + 1 < b from fun b hb => by
    rcases K6 b hb with h1 | h1
    · exact K4.out b h1
    · have := LT5.out; exact .inr (by omega))
  have R6 := Lib.hid R6
  clear PT U6 B5 S5 Z5 X5 U5 R5 d0
  go_wp2_with (first
    | ((with_reducible refine wg_store 61 (.tmp 2) (.tmp 34) ?_); refine wpList_store_blk rfl 61 (.tmp 2) (.tmp 34) rfl w.heap.size (rdC s6 p6 o6 (v.commit1 u).left (v.commit1 u).dead) rfl rfl 61 _ B6.out (info_rd _ _ _ _ _) rfl (rdC_one _ _ _ _ _) ?_))
  intro w7 b7 g7
  have R7 := Lib.hid (R6.out.grown g7 (fun b hb => (AP.out s6 p6 K6.out b hb).1))
  have B7 := Lib.hid b7
  have Z7 := Lib.hid (Z6.out.grown g7 (by intro h; have := Option.some.inj h; omega))
  have U7 := Lib.hid (Up.grown UU6.out g7 (fun k hk => by cases hk; omega))
  clear b7 g7 B6 Z6 UU6 R6
  by_cases we : wE = 0
  rotate_left
  · have V2 := Lib.hid (show v.committed u = v.commit1 u by rw [VV.out, if_neg we])
    have E2 := Lib.hid (show v.commitE u = wE by rw [VE.out, if_neg we])
    have bw : (wE != 0) = true := by simp; exact we
    clear we wr
    go_wp2_with (first
      | ((with_reducible refine wg_load 61 (.tmp 2) ?_); refine wpList_load_blkG rfl 61 (.tmp 2) rfl w.heap.size rfl 61 _ B7.out _ Try.underlying61 rfl (info_rd _ _ _ _ _) ?_)
      | ((with_reducible refine wg_store 61 (.tmp 4) (.tmp 38) ?_); refine wpList_store_blk rfl 61 (.tmp 4) (.tmp 38) rfl (w.heap.size + 1 + 1) (rdC s6 p6 o6 (v.commit1 u).left (v.commit1 u).dead) rfl rfl 61 _ Z7.out (info_rd _ _ _ _ _) rfl (rdC_one _ _ _ _ _) ?_))
    intro w9 b9 g9
    have U9 := Up.grown U7.out g9 (fun k hk => by cases hk; omega)
    go_wp2_with fail
    (try simp only [Exit.inBlock, Exit.then])
    refine bodyPost_ret (v := .tuple #[.agg (rdC s6 p6 o6 (v.commit1 u).left (v.commit1 u).dead), .int .i64 wE]) (results_blk rfl _ _ _ (w.heap.size + 1 + 1) 61 _ _ rfl rfl b9 _ Try.underlying61 rfl (info_rd _ _ _ _ _)) rfl ?_
    exact ⟨s6, p6, o6, by rw [V2.out, E2.out], by rw [V2.out]; exact R7.out.grown g9 (fun b hb => (AP.out s6 p6 K6.out b hb).2), U9, fun b hb => (K6.out b hb).imp id (fun h => by omega)⟩
  have V2 := Lib.hid (show v.committed u = (v.commit1 u).flushed by rw [VV.out, if_pos we])
  have E2 := Lib.hid (show v.commitE u = (v.commit1 u).flushE by rw [VE.out, if_pos we])
  have bw : (wE != 0) = false := by simp; exact we
  have FL := Lib.hid (rflush_any w7 s6 p6 o6 (v.commit1 u) R7.out)
  clear we wr
  go_wp2_with (first
    | ((with_reducible refine wg_load 61 (.tmp 2) ?_); refine wpList_load_blkG rfl 61 (.tmp 2) rfl w.heap.size rfl 61 _ B7.out _ Try.underlying61 rfl (info_rd _ _ _ _ _) ?_))
  refine FL.out.mono ?_
  rintro e w8 ⟨s8, p8, o8, rfl, R8, U8, K8⟩
  have Z8 := Lib.hid (Z7.out.up U8)
  have UU8 := Lib.hid (U7.out.trans U8)
  have LT7 := Lib.hid (show w.heap.size + 1 + 1 < w7.heap.size from Z7.out.lt)
  have K8 := Lib.hid (show ∀ b, (s8.v.ownBlock = some b ∨ p8.v.ownBlock = some b) → (s.v.ownBlock = some b ∨ p.v.ownBlock = some b) ∨ w.heap.size + 1 + 1 < b from fun b hb => by
    rcases K8 b hb with h1 | h1
    · exact K6.out b h1
    · have := LT7.out; exact .inr (by omega))
  have R8 := Lib.hid R8
  clear FL U8 B7 Z7 U7
  go_wp2_with (first
    | ((with_reducible refine wg_store 61 (.tmp 4) (.tmp 42) ?_); refine wpList_store_blk rfl 61 (.tmp 4) (.tmp 42) rfl (w.heap.size + 1 + 1) (rdC s8 p8 o8 (v.commit1 u).flushed.left (v.commit1 u).flushed.dead) rfl rfl 61 _ Z8.out (info_rd _ _ _ _ _) rfl (rdC_one _ _ _ _ _) ?_))
  intro w9 b9 g9
  have U9 := Up.grown UU8.out g9 (fun k hk => by cases hk; omega)
  go_wp2_with fail
  (try simp only [Exit.inBlock, Exit.then])
  refine bodyPost_ret (v := .tuple #[.agg (rdC s8 p8 o8 (v.commit1 u).flushed.left (v.commit1 u).flushed.dead), .int .i64 (v.commit1 u).flushE]) (results_blk rfl _ _ _ (w.heap.size + 1 + 1) 61 _ _ rfl rfl b9 _ Try.underlying61 rfl (info_rd _ _ _ _ _)) rfl ?_
  exact ⟨s8, p8, o8, by rw [V2.out, E2.out], by rw [V2.out]; exact R8.out.grown g9 (fun b hb => (AP.out s8 p8 K8.out b hb).2), U9, fun b hb => (K8.out b hb).imp id (fun h => by omega)⟩

end Go.Proofs.Ytgmdhedabmkcoaa
