/- VdevFlushes: the walk. -/
import Derived.Test.YthlpoboijggjnaaDevV
import Derived.Test.YthlpoboijggjnaaGate
import Derived.Lib.QuietBelow
set_option linter.unusedSimpArgs false
set_option linter.unusedVariables false
namespace Go.Proofs.Ythlpoboijggjnaa
open Go.RowKit Go.Sort

theorem applyW_push (l : List Sec) (ws : List WrD) (x : WrD) : applyW l (ws ++ [x]) = (applyW l ws).set x.loc x.s := by unfold applyW; rw [List.foldl_append]; rfl
theorem keepW_all : ∀ (ws : List WrD) (i k : Nat), i + ws.length ≤ k → keepW (List.replicate k true) i ws = ws
  | [], i, k, _ => rfl
  | x :: ws, i, k, h => by
    simp only [List.length_cons] at h
    unfold keepW
    rw [keepW_all ws (i + 1) k (by omega), if_pos]
    rw [List.getD_eq_getElem?_getD, List.getElem?_replicate, if_pos (by omega)]
    rfl
structure FlInv (k : Nat) (v : DevD) : Prop where
  len : v.stable.length = 8
  pend : v.pend.length ≤ k
  left : v.left = -1
  dead : v.dead = false
  new : v.newest = applyW v.stable v.pend
theorem live_spent (v : DevD) (hl : v.left = -1) (hd : v.dead = false) : v.powerB = true ∧ v.counted.spent.left = -1 ∧ v.counted.spent.dead = false := by
  unfold DevD.powerB DevD.counted DevD.spent
  simp [hl, hd]
theorem hasB8 (v : DevD) (h8 : v.stable.length = 8) (i : Int) : v.hasB i = decide (0 ≤ i ∧ i < 8) := by unfold DevD.hasB; rw [h8]; rfl
theorem FlInv.mono {k : Nat} {v : DevD} (I : FlInv k v) : FlInv (k + 1) v := ⟨I.len, by have := I.pend; omega, I.left, I.dead, I.new⟩
theorem FlInv.write {k : Nat} {v : DevD} (I : FlInv k v) (i : Int) (u : Sec) : FlInv (k + 1) (v.written i u) := by
  obtain ⟨h1, h2, h3⟩ := live_spent v I.left I.dead
  obtain ⟨e1, e2, e3⟩ := spent_same v.counted
  have e1 : v.counted.spent.pend = v.pend := e1
  have e2 : v.counted.spent.stable = v.stable := e2
  have e3 : v.counted.spent.newest = v.newest := e3
  have hp := I.pend
  unfold DevD.written
  rw [h1]
  cases v.hasB i
  · simp only [Bool.false_eq_true, if_false]
    exact ⟨I.len, by show v.pend.length ≤ _; omega, I.left, I.dead, I.new⟩
  · simp only [if_true]
    refine ⟨by show v.counted.spent.stable.length = 8; rw [e2]; exact I.len, by show (v.counted.spent.pend ++ _).length ≤ _; rw [e1]; simp; omega, h2, h3, ?_⟩
    show v.counted.spent.newest.set i.toNat u = applyW v.counted.spent.stable (v.counted.spent.pend ++ [⟨i.toNat, u⟩])
    rw [applyW_push, e1, e2, e3, I.new]
theorem FlInv.read {k n : Nat} {v : DevD} (I : FlInv k v) (hn : n ≤ 7) : v.readE n = 0 ∧ v.newest[n]? = some (v.readS n) := by
  have hb : v.hasB (n : Int) = true := by rw [hasB8 v I.len]; simp; omega
  have hl : v.newest.length = 8 := by rw [I.new, applyW_length]; exact I.len
  unfold DevD.readS DevD.readE DevD.nowAt
  rw [hb, I.dead]
  simp only [Bool.false_eq_true, if_false, if_true, Int.toNat_natCast, and_true]
  refine ⟨trivial, ?_⟩
  rw [List.getD_eq_getElem?_getD, List.getElem?_eq_getElem (by omega)]
  rfl
theorem stableAt_of {v : DevD} {n : Nat} {s : Sec} (h8 : v.stable.length = 8) (hn : n ≤ 7) (h : v.stable[n]? = some s) : v.stableAt n = s := by
  have hb : v.hasB (n : Int) = true := by rw [hasB8 v h8]; simp; omega
  unfold DevD.stableAt
  rw [if_pos hb, Int.toNat_natCast, List.getD_eq_getElem?_getD, h]
  rfl
theorem FlInv.flush {k n : Nat} {v : DevD} (I : FlInv k v) (hn : n ≤ 7) : v.counted.flushed.stableAt n = v.readS n ∧ v.counted.flushed.pend = [] ∧ ∀ ks, (v.counted.flushed.crashed ks).stableAt n = v.readS n := by
  obtain ⟨h1, h2, h3⟩ := live_spent v.counted I.left I.dead
  have hs : v.counted.flushed.stable = v.newest := by
    unfold DevD.flushed
    rw [h1]
    simp only [if_true]
    exact I.new.symm
  have hp : v.counted.flushed.pend = [] := by
    unfold DevD.flushed
    rw [h1]
    simp only [if_true]
  have hr := (I.read hn).2
  have hl : v.newest.length = 8 := by rw [I.new, applyW_length]; exact I.len
  refine ⟨stableAt_of (by rw [hs]; exact hl) hn (by rw [hs]; exact hr), hp, fun ks => ?_⟩
  have hc : (v.counted.flushed.crashed ks).stable = v.newest := by
    show applyW v.counted.flushed.stable (keepW ks 0 v.counted.flushed.pend) = _
    rw [hp, hs]
    rfl
  exact stableAt_of (by rw [hc]; exact hl) hn (by rw [hc]; exact hr)
theorem FlInv.all {k n : Nat} {v : DevD} (I : FlInv k v) (hn : n ≤ 7) : (v.crashed (List.replicate k true)).stableAt n = v.readS n := by
  have hr := (I.read hn).2
  have hl : v.newest.length = 8 := by rw [I.new, applyW_length]; exact I.len
  have hc : (v.crashed (List.replicate k true)).stable = v.newest := by
    show applyW v.stable (keepW (List.replicate k true) 0 v.pend) = _
    rw [keepW_all v.pend 0 k (by have := I.pend; omega), I.new]
  exact stableAt_of (by rw [hc]; exact hl) hn (by rw [hc]; exact hr)

theorem own_off {e : TypeId} {base g : Nat} {t : TypeId} {C : Array Value} {w : World} {vs : Value} {bs : List Bool} (hne : t ≠ e) (hb : Blk w g t C) (ho : Own boolCell e w base vs bs) : vs.ownBlock ≠ some g := fun e0 => by
  obtain ⟨_, h2⟩ := ho
  rcases h2 with ⟨rfl, _⟩ | ⟨g', cap, cur, rfl, _, hh, _⟩
  · simp [Value.ownBlock] at e0
  · simp [Value.ownBlock] at e0
    subst e0
    have := hb.symm.trans hh
    simp at this
    exact hne this.2
theorem own_off_dev {w : World} {h : Hnd} {v : DevD} {base : Nat} {vs : Value} {bs : List Bool} (D : Dv w h v) (ho : Own boolCell 4 w base vs bs) (b : Nat) (hb : vs.ownBlock = some b) : ¬ Foot h b := by
  rintro (rfl | rfl | rfl | hf)
  · exact own_off (by decide) D.dev ho hb
  · exact own_off (by decide) D.b1 ho hb
  · exact own_off (by decide) D.b2 ho hb
  · obtain ⟨_, h2⟩ := ho
    obtain ⟨_, h3⟩ := D.pend
    rcases h2 with ⟨rfl, _⟩ | ⟨g', cap, cur, rfl, _, hh, _⟩
    · simp [Value.ownBlock] at hb
    · simp [Value.ownBlock] at hb
      subst hb
      rcases h3 with ⟨h3, _⟩ | ⟨g2, cap2, cur2, h3, _, hh2, _⟩
      · rw [h3] at hf; simp [Value.ownBlock] at hf
      · rw [h3] at hf
        simp [Value.ownBlock] at hf
        subst hf
        have := hh2.symm.trans hh
        simp at this
theorem Own.touch {w w' : World} {e : TypeId} {base : Nat} {vs : Value} {bs : List Bool} (ho : Own boolCell e w base vs bs) {F : Nat → Prop} (ht : Touch F w w') (hf : ∀ b, vs.ownBlock = some b → ¬ F b) : Own boolCell e w' base vs bs := by
  obtain ⟨h1, h2⟩ := ho
  refine ⟨h1, ?_⟩
  rcases h2 with h2 | ⟨g, cap, cur, hv, hg, hh, r⟩
  · exact .inl h2
  · have hlt : g < w.heap.size := (Array.getElem?_eq_some_iff.1 hh).1
    exact .inr ⟨g, cap, cur, hv, hg, by rw [ht.block g hlt (hf g (by rw [hv]; rfl))]; exact hh, r⟩
theorem DevAt.off {w w1 w2 : World} {h : Hnd} {v : DevD} {row : Option Nat} (A : DevAt w w1 h v) (hg : w1.grownBy w2 row) (hf : ∀ b, row = some b → ¬ Foot h b ∧ w.heap.size ≤ b) : DevAt w w2 h v :=
  ⟨A.dv.touch (Touch.of_grown (F := fun b => row = some b) hg (fun k hk => hk)) (fun b hb e => (hf b e).1 hb), A.up.grown hg (fun k hk => (hf k hk).2), A.own⟩
theorem DevAt.aside {w w1 w2 : World} {h : Hnd} {v : DevD} {F : Nat → Prop} (A : DevAt w w1 h v) (T : Touch F w1 w2) (U : Up w w2) (hf : ∀ b, Foot h b → ¬ F b) : DevAt w w2 h v := ⟨A.dv.touch T hf, U, A.own⟩

/-- Two devices of the call's own, and a row of bools. -/
structure FlAt (w wr : World) (h1 h2 : Hnd) (vs : Value) (v1 v2 : DevD) (bs : List Bool) : Prop where
  d1 : DevAt w wr h1 v1
  d2 : DevAt w wr h2 v2
  ap : ∀ b, Foot h1 b → ¬ Foot h2 b
  own : Own boolCell 4 wr w.heap.size vs bs
section
variable {w wr wr' : World} {h1 h2 : Hnd} {vs : Value} {v1 v2 v' : DevD} {bs : List Bool}
theorem FlAt.up (A : FlAt w wr h1 h2 vs v1 v2 bs) (U : Up wr wr') : FlAt w wr' h1 h2 vs v1 v2 bs := ⟨A.d1.upTo U, A.d2.upTo U, A.ap, A.own.up U⟩
theorem foot_new {h : Hnd} {vp : Value} {b : Nat} (O : ∀ b, vp.ownBlock = some b → h.vp.ownBlock = some b ∨ wr.heap.size ≤ b) (hf : Foot { h with vp := vp } b) : Foot h b ∨ wr.heap.size ≤ b := Turned.foot (w' := wr) O b hf
theorem FlAt.touch1 (A : FlAt w wr h1 h2 vs v1 v2 bs) (D : Dv wr' h1 v') (T : Touch (Foot h1) wr wr') : FlAt w wr' h1 h2 vs v' v2 bs :=
  have U := T.up A.d1.up A.d1.own
  ⟨⟨D, U, A.d1.own⟩, A.d2.aside T U (fun b hb hf => A.ap b hf hb), A.ap, Own.touch A.own T (own_off_dev A.d1.dv A.own)⟩
theorem FlAt.turn1 (A : FlAt w wr h1 h2 vs v1 v2 bs) (T : Turned wr h1 v' wr') : ∃ vp, FlAt w wr' { h1 with vp := vp } h2 vs v' v2 bs ∧ Touch (Foot h1) wr wr' ∧ ∀ g, g < wr.heap.size → ¬ Foot h1 g → ¬ Foot { h1 with vp := vp } g := by
  obtain ⟨vp, D, TT, O⟩ := T
  have U := TT.up A.d1.up A.d1.own
  refine ⟨vp, ⟨⟨D, U, fun b hb => ?_⟩, A.d2.aside TT U (fun b hb hf => A.ap b hf hb), fun b hb hb2 => ?_, Own.touch A.own TT (own_off_dev A.d1.dv A.own)⟩, TT, fun g hg hn hf => (foot_new O hf).elim hn (fun h => by omega)⟩
  · rcases foot_new O hb with h | h
    · exact A.d1.own b h
    · exact Nat.le_trans A.d1.up.size h
  · rcases foot_new O hb with h | h
    · exact A.ap b h hb2
    · have := A.d2.dv.foot_lt b hb2
      omega
theorem FlAt.turn2 (A : FlAt w wr h1 h2 vs v1 v2 bs) (T : Turned wr h2 v' wr') : ∃ vp, FlAt w wr' h1 { h2 with vp := vp } vs v1 v' bs ∧ Touch (Foot h2) wr wr' ∧ ∀ g, g < wr.heap.size → ¬ Foot h2 g → ¬ Foot { h2 with vp := vp } g := by
  obtain ⟨vp, D, TT, O⟩ := T
  have U := TT.up A.d2.up A.d2.own
  refine ⟨vp, ⟨A.d1.aside TT U (fun b hb hf => A.ap b hb hf), ⟨D, U, fun b hb => ?_⟩, fun b hb hb2 => ?_, Own.touch A.own TT (own_off_dev A.d2.dv A.own)⟩, TT, fun g hg hn hf => (foot_new O hf).elim hn (fun h => by omega)⟩
  · rcases foot_new O hb with h | h
    · exact A.d2.own b h
    · exact Nat.le_trans A.d2.up.size h
  · rcases foot_new O hb2 with h | h
    · exact A.ap b hb h
    · have := A.d1.dv.foot_lt b hb
      omega
theorem FlAt.pushed {vs' : Value} {bs' : List Bool} (A : FlAt w wr h1 h2 vs v1 v2 bs) (ho : Own boolCell 4 wr' w.heap.size vs' bs') (hg : wr.grownBy wr' vs.ownBlock) : FlAt w wr' h1 h2 vs' v1 v2 bs' :=
  ⟨A.d1.off hg (fun b hb => ⟨own_off_dev A.d1.dv A.own b hb, (A.own.block_lt b hb).1⟩), A.d2.off hg (fun b hb => ⟨own_off_dev A.d2.dv A.own b hb, (A.own.block_lt b hb).1⟩), A.ap, ho⟩
end
theorem qg_load {P : Program} {a : Act} {C : World → Prop} {K : Act → Prop} {dst : Option Tmp} {type : TypeId} {pos : String} {after : Array Edge} {guard : Option (Nat × Bool)} (ty : TypeId) (x : Operand)
    (h : Oper.quiet P { dst := dst, op := .load ty x, type := type, pos := pos, after := after, guard := guard } a C K) : Oper.quiet P { dst := dst, op := .load ty x, type := type, pos := pos, after := after, guard := guard } a C K := h
theorem info_boolF : (Try.prog.info? 4).map (fun i => (i.zero, i.size, i.bytes)) = some (some (.bool false), 1, 1) := by kernel_rfl
-- THE WALK
set_option maxRecDepth 100000 in
set_option maxHeartbeats 16000000 in
theorem vdevFlushes_walk (w : World) (va : Value) (l : List ActD) (hl : IsRow acells w va l) (_hr : l.length * 168 ≤ 140737488351232) (hq : ∀ x ∈ l, x.wf) (vk : Value) (ks : List Bool) (hk : IsOnes boolCell w vk ks) (hkr : ks.length * 1 ≤ 140737488351232) (_hkq : ∀ x ∈ ks, True) (i : Int) (hi : -9223372036854775808 ≤ i ∧ i ≤ 9223372036854775807) :
    Calls Try.prog 4 #[va, vk, .int .i64 i] w fun e w' => e = .returned (.bool true) ∧ Up w w' := by
  have hln := hl.length_le
  obtain ⟨pa, pc, rfl⟩ := hl.slice
  obtain ⟨ka, kc, rfl⟩ := hk.slice
  have AL := Lib.hid (alive_any w)
  have NW := Lib.hid (fun W => dnew_any W 8 (by omega))
  have HL := Lib.hid hl
  have HQ := Lib.hid hq
  have HK := Lib.hid hk
  clear hl hq _hr hk _hkq
  by_cases h100 : 100 < l.length
  · have b1 : ((100 : Int) < (l.length : Int)) = True := by simp; omega
    go_enter Try.func4, Try.ntmps4
    go_wp2_with fail
    refine AL.out.mono ?_
    rintro e w1 ⟨rfl, U1⟩
    have HU1 := Lib.hid U1
    clear U1
    go_wp2_with fail
    refine (NW.out w1).mono ?_
    rintro e w2 ⟨h1, rfl, D2, U2, O2⟩
    have HD2 := Lib.hid D2
    have HU2 := Lib.hid U2
    have HO2 := Lib.hid O2
    clear D2 U2 O2
    go_wp2_with fail
    refine (NW.out w2).mono ?_
    rintro e w3 ⟨h2, rfl, D3, U3, O3⟩
    have HD3 := Lib.hid D3
    have HU3 := Lib.hid U3
    have HO3 := Lib.hid O3
    clear D3 U3 O3
    go_wp2_with fail
    go_ret
    exact ⟨rfl, (HU1.out.trans HU2.out).trans HU3.out⟩
  have b1 : ((100 : Int) < (l.length : Int)) = False := by simp; omega
  by_cases hneg : i < 0
  · go_enter Try.func4, Try.ntmps4
    go_wp2_with fail
    refine AL.out.mono ?_
    rintro e w1 ⟨rfl, U1⟩
    have HU1 := Lib.hid U1
    clear U1
    go_wp2_with fail
    refine (NW.out w1).mono ?_
    rintro e w2 ⟨h1, rfl, D2, U2, O2⟩
    have HD2 := Lib.hid D2
    have HU2 := Lib.hid U2
    have HO2 := Lib.hid O2
    clear D2 U2 O2
    go_wp2_with fail
    refine (NW.out w2).mono ?_
    rintro e w3 ⟨h2, rfl, D3, U3, O3⟩
    have HD3 := Lib.hid D3
    have HU3 := Lib.hid U3
    have HO3 := Lib.hid O3
    clear D3 U3 O3
    go_wp2_with fail
    go_ret
    exact ⟨rfl, (HU1.out.trans HU2.out).trans HU3.out⟩
  by_cases h7 : 7 < i
  · go_enter Try.func4, Try.ntmps4
    go_wp2_with fail
    refine AL.out.mono ?_
    rintro e w1 ⟨rfl, U1⟩
    have HU1 := Lib.hid U1
    clear U1
    go_wp2_with fail
    refine (NW.out w1).mono ?_
    rintro e w2 ⟨h1, rfl, D2, U2, O2⟩
    have HD2 := Lib.hid D2
    have HU2 := Lib.hid U2
    have HO2 := Lib.hid O2
    clear D2 U2 O2
    go_wp2_with fail
    refine (NW.out w2).mono ?_
    rintro e w3 ⟨h2, rfl, D3, U3, O3⟩
    have HD3 := Lib.hid D3
    have HU3 := Lib.hid U3
    have HO3 := Lib.hid O3
    clear D3 U3 O3
    go_wp2_with fail
    go_ret
    exact ⟨rfl, (HU1.out.trans HU2.out).trans HU3.out⟩
  obtain ⟨n, rfl⟩ : ∃ n : Nat, i = n := ⟨i.toNat, by omega⟩
  have hn7 : n ≤ 7 := by omega
  clear hneg h7
  have OW := Lib.hid (show ∀ W h v v2, Dv W h v → v.pend.length ≤ 1000000 → ∀ i : Int, -9223372036854775808 ≤ i ∧ i ≤ 9223372036854775807 → ∀ u : Sec, v.written i u = v2 → Calls Try.prog 11 #[.pointer (some ⟨h.d, 0, none⟩), .int .i64 i, .agg (secC u.val)] W fun e w' => ∃ ee, e = .returned (.int .i64 ee) ∧ Turned W h v2 w' from fun W h v v2 D hp i hi u hv =>
    (dwrite_any W h v D i hi u hp).mono fun e w' ⟨h1, h2⟩ => ⟨_, h1, hv ▸ h2⟩)
  have OR := Lib.hid (show ∀ W h v, Dv W h v → v.readE n = 0 → Calls Try.prog 12 #[.pointer (some ⟨h.d, 0, none⟩), .int .i64 (n : Int)] W fun e w' => e = .returned (.tuple #[.agg (secC (v.readS n).val), .int .i64 0]) ∧ Dv w' h v.counted ∧ Touch (Foot h) W w' from fun W h v D he =>
    (dread_any W h v D n hi).mono fun e w' ⟨h1, h2, h3⟩ => ⟨by rw [h1, he], h2, h3⟩)
  have OF := Lib.hid (show ∀ W h v v2, Dv W h v → v.pend.length ≤ 1000000 → v.flushed = v2 → Calls Try.prog 13 #[.pointer (some ⟨h.d, 0, none⟩)] W fun e w' => ∃ ee, e = .returned (.int .i64 ee) ∧ Turned W h v2 w' from fun W h v v2 D hp hv =>
    (dflush_any W h v D hp).mono fun e w' ⟨h1, h2⟩ => ⟨_, h1, hv ▸ h2⟩)
  have OC := Lib.hid (show ∀ W h v v2 bs, Dv W h v → v.pend.length ≤ 1000000 → v.crashed bs = v2 → ∀ vk, (∀ w', Touch (Foot h) W w' → IsOnes boolCell w' vk bs) → Calls Try.prog 14 #[.pointer (some ⟨h.d, 0, none⟩), vk] W fun e w' => e = .returned (.tuple #[]) ∧ Turned W h v2 w' from fun W h v v2 bs D hp hv vk HK =>
    (dcrash_any W h v D hp vk bs HK).mono fun e w' ⟨h1, h2⟩ => ⟨h1, hv ▸ h2⟩)
  have OS := Lib.hid (show ∀ W h v s, Dv W h v → v.stableAt n = s → Calls Try.prog 15 #[.pointer (some ⟨h.d, 0, none⟩), .int .i64 (n : Int)] W fun e w' => e = .returned (.agg (secC s.val)) ∧ Up W w' from fun W h v s D hs => by
    have := dstable_any W h v D n hi
    rw [hs] at this
    exact this)
  have OP := Lib.hid (show ∀ W h v, Dv W h v → v.pend = [] → Calls Try.prog 16 #[.pointer (some ⟨h.d, 0, none⟩)] W fun e w' => e = .returned (.int .i64 0) ∧ Up W w' from fun W h v D hp => by
    have := dpending_any W h v D
    rw [hp] at this
    exact this.mono fun e w' ⟨h1, h2⟩ => ⟨h1, h2 ▸ Up.refl W⟩)
  have b7 : ((7 : Int) < (n : Int)) = False := by simp; omega
  go_enter Try.func4, Try.ntmps4
  go_wp2_with fail
  refine AL.out.mono ?_
  rintro e w1 ⟨rfl, U1⟩
  have HU1 := Lib.hid U1
  clear U1
  go_wp2_with fail
  refine (NW.out w1).mono ?_
  rintro e w2 ⟨h1, rfl, D2, U2, O2⟩
  have HD2 := Lib.hid D2
  have HU2 := Lib.hid U2
  have HO2 := Lib.hid O2
  clear D2 U2 O2
  go_wp2_with fail
  refine (NW.out w2).mono ?_
  rintro e w3 ⟨h2, rfl, D3, U3, O3⟩
  have HD3 := Lib.hid D3
  have HU3 := Lib.hid U3
  have HO3 := Lib.hid O3
  clear D3 U3 O3
  have A3 := Lib.hid (show FlAt w (w3.alloc (.cells #[] 4)) h1 h2 (.slice (some ⟨w3.heap.size, 0, none⟩) 0 0) (newD (clampN 8)) (newD (clampN 8)) (List.replicate 0 true) from by
    have U := (HU1.out.trans HU2.out).trans HU3.out
    have d1 : DevAt w w3 h1 (newD (clampN 8)) := ⟨HD2.out.up HU3.out, U, fun b hb => Nat.le_trans HU1.out.size (HO2.out b hb)⟩
    have d2 : DevAt w w3 h2 (newD (clampN 8)) := ⟨HD3.out, U, fun b hb => Nat.le_trans (HU1.out.trans HU2.out).size (HO3.out b hb)⟩
    have UA := up_alloc w3 (.cells #[] 4)
    exact ⟨d1.upTo UA, d2.upTo UA, fun b hb hb2 => by
      have := HD2.out.foot_lt b hb
      have := HO3.out b hb2
      omega, Own.made boolCell 4 w3 w.heap.size U.size⟩)
  have I3 := Lib.hid (show FlInv 0 (newD (clampN 8)) from ⟨by kernel_rfl, Nat.le_refl _, rfl, rfl, rfl⟩)
  clear HD2 HD3 HU2 HU3 HO2 HO3 HU1
  go_wp2_with fail
  go_loopw [9, 46] (fun vs i wr => ∃ (k : Nat) (vp1 vp2 : Value) (v : DevD), k ≤ l.length ∧ i = .int .i64 k ∧ FlAt w wr { h1 with vp := vp1 } { h2 with vp := vp2 } vs v v (List.replicate k true) ∧ FlInv k v) (fun _ i _ => l.length - (intOf i).toNat)
  case atStart => exact ⟨0, h1.vp, h2.vp, _, Nat.zero_le _, rfl, A3.out, I3.out⟩
  case round =>
    obtain ⟨k, vp1, vp2, v, hk, rfl, ar, ir⟩ := hrel
    have AR := Lib.hid ar
    have IR := Lib.hid ir
    have ROOM := Lib.hid (show v.pend.length ≤ 1000000 by have := ir.pend; omega)
    clear ar ir A3 I3
    by_cases hlt : k < l.length
    · have b2 : ((k : Int) < (l.length : Int)) = True := by simp; omega
      obtain ⟨ab, ao, rfl, _, rg⟩ := acts_at HL.out (by omega)
      have RG := Lib.hid (show wr.rangeAt ab (ao + k * 131) (actC l[k]).toList from fun j u hj => AR.out.d1.up.cell (rg k hlt j u hj))
      have wfx := HQ.out l[k] (List.getElem_mem hlt)
      clear rg
      generalize l[k] = x at *
      have upa := up_alloc wr (.cells (actC x) 31)
      have A5 := Lib.hid (AR.out.up upa)
      have BX := Lib.hid (Blk.new wr 31 (actC x))
      have NX1 := Lib.hid (show ¬ Foot { h1 with vp := vp1 } wr.heap.size from fun hf => Nat.lt_irrefl _ (AR.out.d1.dv.foot_lt _ hf))
      have NX2 := Lib.hid (show ¬ Foot { h2 with vp := vp2 } wr.heap.size from fun hf => Nat.lt_irrefl _ (AR.out.d2.dv.foot_lt _ hf))
      obtain ⟨c0, c1, r2⟩ := act_parts BX.out
      have R2 := Lib.hid r2
      have wfx1 := wfx.1
      have wfx2 := wfx.2
      clear r2 upa wfx
      generalize hxk : x.kind = xk at *
      have HXK := Lib.hid hxk
      clear hxk
      generalize hxl : x.loc = xl at *
      have HXL := Lib.hid hxl
      clear hxl
      have HREP := Lib.hid (show List.replicate k true ++ [true] = List.replicate (k + 1) true from List.replicate_succ'.symm)
      have hb1 := Lib.hid (show ((List.replicate k true).length + [true].length) * 1 ≤ 140737488355328 by simp; omega)
      have hb2 := Lib.hid (show (List.replicate k true).length + [true].length ≤ 9223372036854775807 by simp; omega)
      by_cases hkd : xk = 1
      · obtain rfl := hkd
        obtain ⟨v2, hv2⟩ : ∃ y, v.written xl x.s = y := ⟨_, rfl⟩
        have I6 := Lib.hid (hv2 ▸ IR.out.write xl x.s)
        have HV := Lib.hid hv2
        clear hv2
        go_wp2_with (first
          | ((with_reducible refine wg_load 31 (.tmp 48) ?_); refine wl_part rfl 31 (.tmp 48) rfl ab (ao + k * 131) rfl (actC x) RG.out _ Try.underlying31 rfl (info_act x) ?_)
          | ((with_reducible refine wg_alloc 31 ?_); refine wpList_alloc_blk rfl 31 rfl (actC zAct) zero_act ?_)
          | ((with_reducible refine wg_store 31 (.tmp 11) (.tmp 49) ?_); refine ws_new wr rfl 31 (.tmp 11) (.tmp 49) rfl (actC x) 31 (actC zAct) rfl rfl rfl (info_act x) (actZ x) (actC_one x) ?_)
          | ((with_reducible refine wg_load 29 (.tmp 56) ?_); refine wl_part rfl 29 (.tmp 56) rfl wr.heap.size 2 rfl _ R2.out _ Try.underlying29 rfl (info_secV x.s) ?_))
        refine (OW.out _ _ _ _ A5.out.d1.dv ROOM.out _ wfx2 x.s HV.out).mono ?_
        rintro e w5 ⟨ee, rfl, T5⟩
        obtain ⟨vp5, a6, TT, _⟩ := A5.out.turn1 T5
        have A6 := Lib.hid a6
        have HBX := Lib.hid (BX.out.touch TT NX1.out)
        obtain ⟨d0, d1, dr⟩ := act_parts HBX.out
        rw [HXL.out] at d1
        have DR := Lib.hid dr
        clear dr T5 TT a6 c0 c1 R2 RG A5 BX d0
        go_wp2_with (first
          | ((with_reducible refine wg_load 29 (.tmp 62) ?_); refine wl_part rfl 29 (.tmp 62) rfl wr.heap.size 2 rfl _ DR.out _ Try.underlying29 rfl (info_secV x.s) ?_))
        refine (OW.out _ _ _ _ A6.out.d2.dv ROOM.out _ wfx2 x.s HV.out).mono ?_
        rintro e w6 ⟨ee2, rfl, T6⟩
        obtain ⟨vp6, a7, TT, _⟩ := A6.out.turn2 T6
        have A7 := Lib.hid a7
        clear T6 TT a7 A6 HBX DR d1
        have LIT := Lib.hid (IsOnes.lit w6 #[.bool true] 4 (0, 0) [true] 1 rfl (by unfold maxLen; omega) (rfl : _ = [true].map boolCell))
        have A8 := Lib.hid (A7.out.up (up_alloc w6 (.cells #[.bool true] 4)))
        have HSZ := Lib.hid A8.out.d1.up.size
        go_wp2_with (first
          | (at_builtin; refine wpList_append_ones boolCell (fun _ => rfl) rfl (.tmp 65) (.tmp 66) 27 rfl w.heap.size 4 (.bool false) 1 Try.underlying27 info_boolF rfl _ (List.replicate k true) rfl A8.out.own (.slice (some ⟨w6.heap.size, 0, none⟩) 1 1) [true] rfl LIT.out hb1.out hb2.out HSZ.out ?_))
        intro v9 w9 hown9 hg9 _
        rw [HREP.out] at hown9
        have A9 := Lib.hid (A8.out.pushed hown9 hg9)
        clear hown9 hg9 A8 LIT HSZ
        go_wp2_with fail
        refine ⟨⟨k + 1, vp5, vp6, _, hlt, by simp, A9.out, I6.out⟩, ?_⟩
        simp only [intOf]
        omega
      have f1 : decide (xk = 1) = false := by simp [hkd]
      have I6 := Lib.hid IR.out.mono
      obtain ⟨w6, hw6⟩ : ∃ y, y = wr.alloc (.cells (actC x) 31) := ⟨_, rfl⟩
      have A7 := Lib.hid (hw6 ▸ A5.out)
      have LIT := Lib.hid (IsOnes.litAt (f := boolCell) (wr.alloc (.cells (actC x) 31)) (wr.heap.size + 1) (by rw [size_alloc]) #[.bool true] 4 (0, 0) [true] 1 rfl (by unfold maxLen; omega) rfl)
      have A8 := Lib.hid (A5.out.up (up_alloc _ (.cells #[.bool true] 4)))
      have HSZ := Lib.hid A8.out.d1.up.size
      clear A7 hw6
      go_wp2_with (first
        | ((with_reducible refine wg_load 31 (.tmp 48) ?_); refine wl_part rfl 31 (.tmp 48) rfl ab (ao + k * 131) rfl (actC x) RG.out _ Try.underlying31 rfl (info_act x) ?_)
        | ((with_reducible refine wg_alloc 31 ?_); refine wpList_alloc_blk rfl 31 rfl (actC zAct) zero_act ?_)
        | ((with_reducible refine wg_store 31 (.tmp 11) (.tmp 49) ?_); refine ws_new wr rfl 31 (.tmp 11) (.tmp 49) rfl (actC x) 31 (actC zAct) rfl rfl rfl (info_act x) (actZ x) (actC_one x) ?_)
        | (at_builtin; refine wpList_append_ones boolCell (fun _ => rfl) rfl (.tmp 65) (.tmp 66) 27 rfl w.heap.size 4 (.bool false) 1 Try.underlying27 info_boolF rfl _ (List.replicate k true) rfl A8.out.own (.slice (some ⟨wr.heap.size + 1, 0, none⟩) 1 1) [true] rfl LIT.out hb1.out hb2.out HSZ.out ?_))
      intro v9 w9 hown9 hg9 _
      rw [HREP.out] at hown9
      have A9 := Lib.hid (A8.out.pushed hown9 hg9)
      clear hown9 hg9 A8 LIT HSZ
      go_wp2_with fail
      refine ⟨⟨k + 1, vp1, vp2, _, hlt, by simp, A9.out, I6.out⟩, ?_⟩
      simp only [intOf]
      omega
    · obtain rfl : k = l.length := by omega
      have b2 : ((l.length : Int) < (l.length : Int)) = False := by simp
      have RE := Lib.hid (IR.out.read hn7).1
      have FL := Lib.hid (IR.out.flush hn7)
      have CA := Lib.hid (IR.out.all hn7)
      have RC := Lib.hid (show v.counted.pend.length ≤ 1000000 from ROOM.out)
      clear IR
      go_wp2_with fail
      refine (OR.out _ _ _ AR.out.d1.dv RE.out).mono ?_
      rintro e w5 ⟨rfl, D5, T5⟩
      have A5 := Lib.hid (AR.out.touch1 D5 T5)
      clear D5 T5 AR
      generalize v.readS n = sn at *
      have A6 := Lib.hid (A5.out.up (up_alloc w5 (.cells (secC sn.val) 29)))
      have B6 := Lib.hid (Blk.new w5 29 (secC sn.val))
      have NF1 := Lib.hid (show ¬ Foot { h1 with vp := vp1 } w5.heap.size from fun hf => Nat.lt_irrefl _ (A5.out.d1.dv.foot_lt _ hf))
      have NF2 := Lib.hid (show ¬ Foot { h2 with vp := vp2 } w5.heap.size from fun hf => Nat.lt_irrefl _ (A5.out.d2.dv.foot_lt _ hf))
      have HZ := Lib.hid (show (secC zeroS).size = (secC sn.val).size by rw [secV_size]; rfl)
      have HI := Lib.hid (info_secV sn)
      have HO := Lib.hid (secC_one sn.val)
      have LT6 := Lib.hid B6.out.lt
      clear A5
      go_wp2_with (first
        | ((with_reducible refine wg_alloc 29 ?_); refine wpList_alloc_blk rfl 29 rfl (secC zeroS) zero_sec ?_)
        | ((with_reducible refine wg_store 29 (.tmp 12) (.tmp 73) ?_); refine ws_new w5 rfl 29 (.tmp 12) (.tmp 73) rfl (secC sn.val) 29 (secC zeroS) rfl rfl rfl HI.out HZ.out HO.out ?_))
      generalize hw6 : w5.alloc (.cells (secC sn.val) 29) = w6 at *
      generalize w5.heap.size = gn at *
      clear hw6
      obtain ⟨v2, hv2⟩ : ∃ y, v.counted.flushed = y := ⟨_, rfl⟩
      rw [hv2] at FL
      have HV2 := Lib.hid hv2
      clear hv2
      refine (OF.out _ _ _ _ A6.out.d1.dv RC.out HV2.out).mono ?_
      rintro e w7 ⟨ee, rfl, T7⟩
      obtain ⟨vp7, a7, TT, NN⟩ := A6.out.turn1 T7
      have A7 := Lib.hid a7
      have B7 := Lib.hid (B6.out.touch TT NF1.out)
      have NF7 := Lib.hid (NN gn LT6.out NF1.out)
      clear T7 TT a7 A6 B6 HV2 NN NF1
      go_wp2_with fail
      obtain ⟨v3, hv3⟩ : ∃ y, v.crashed (List.replicate l.length true) = y := ⟨_, rfl⟩
      rw [hv3] at CA
      have HV3 := Lib.hid hv3
      have HP3 := Lib.hid (show v3.pend = [] by rw [← hv3]; rfl)
      clear hv3
      refine (OC.out _ _ _ _ _ A7.out.d2.dv ROOM.out HV3.out u9 (fun w' T => (Own.touch A7.out.own T (own_off_dev A7.out.d2.dv A7.out.own)).ones)).mono ?_
      rintro e w8 ⟨rfl, T8⟩
      obtain ⟨vp8, a8, TT, _⟩ := A7.out.turn2 T8
      have A8 := Lib.hid a8
      have BN := Lib.hid (B7.out.touch TT NF2.out)
      clear T8 TT a8 A7 B7 HV3 NF2
      go_wp2_with fail
      have CS1 := Lib.hid (fun d os => OS.out (grow (redrawn w8 d) os) _ v2 sn (A8.out.d1.dv.up (below_regrown w8 d os)) FL.out.1)
      have CS2 := Lib.hid (fun d os => OS.out (grow (redrawn w8 d) os) _ v3 sn (A8.out.d2.dv.up (below_regrown w8 d os)) CA.out)
      have CP1 := Lib.hid (fun d os => OP.out (grow (redrawn w8 d) os) _ v2 (A8.out.d1.dv.up (below_regrown w8 d os)) FL.out.2.1)
      have CP2 := Lib.hid (fun d os => OP.out (grow (redrawn w8 d) os) _ v3 (A8.out.d2.dv.up (below_regrown w8 d os)) HP3.out)
      have EQ := sec_eq sn.val sn.val sn.property sn.property
      rw [show decide (sn.val = sn.val) = true from decide_eq_true rfl] at EQ
      refine wp_region_quiet_below (by kernel_rfl) (by kernel_rfl) ?_
      repeat (first
        | (go_big_quiet_want; (with_reducible refine qg_load 29 (.tmp 12) ?_); refine quiet_load_blk 29 (.tmp 12) rfl gn rfl 29 _ BN.out.cls _ Try.underlying29 rfl HI.out ?_; go_big_quiet_on; go_simp)
        | (go_big_quiet_step (first | (go_at_call_of 15 (h1.d); exact Calls.regrown_of (CS1.out _ _)) | (go_at_call_of 15 (h2.d); exact Calls.regrown_of (CS2.out _ _)) | (go_at_call_of 16 (h1.d); exact Calls.regrown_of (CP1.out _ _)) | (go_at_call_of 16 (h2.d); exact Calls.regrown_of (CP2.out _ _)))))
      refine wpQuiet_nil ?_
      intro p
      obtain ⟨w9, hw9⟩ : ∃ x, x = grow (redrawn w8 p.d) p.os := ⟨_, rfl⟩
      rw [← hw9]
      have up9 : Up w8 w9 := by rw [hw9]; exact below_regrown _ _ _
      clear hw9 CS1 CS2 CP1 CP2
      have A9 := Lib.hid (A8.out.up up9)
      have B9 := Lib.hid (BN.out.up up9)
      clear up9 A8 BN
      have KR := Lib.hid (HK.out.up A9.out.d1.up)
      go_wp2_with (first
        | (at_builtin; refine wpList_fresh_ones boolCell (fun _ => rfl) rfl (.tmp 101) (.tmp 102) 27 rfl 4 (.bool false) 1 Try.underlying27 info_boolF rfl rfl (.slice ka ks.length kc) ks rfl KR.out (by omega) ?_))
      intro v10 w10 hown10 U10
      have A10 := Lib.hid (A9.out.up U10)
      have B10 := Lib.hid (B9.out.up U10)
      have K10 := Lib.hid hown10
      clear hown10 U10
      go_wp2_with fail
      obtain ⟨v4, hv4⟩ : ∃ y, v2.crashed ks = y := ⟨_, rfl⟩
      have HV4 := Lib.hid hv4
      have ST4 := Lib.hid (show v4.stableAt n = sn by rw [← hv4]; exact FL.out.2.2 ks)
      have RC2 := Lib.hid (show v2.pend.length ≤ 1000000 by rw [FL.out.2.1]; simp)
      clear hv4
      refine (OC.out _ _ _ _ _ A10.out.d1.dv RC2.out HV4.out v10 (fun w' T => (Own.touch K10.out T (own_off_dev A10.out.d1.dv K10.out)).ones)).mono ?_
      rintro e w11 ⟨rfl, T11⟩
      obtain ⟨vp11, a11, TT, _⟩ := A10.out.turn1 T11
      have A11 := Lib.hid a11
      have BN := Lib.hid (B10.out.touch TT NF7.out)
      clear T11 TT a11 A10 B10 HV4 NF7 A9 B9
      go_wp2_with fail
      have CS1 := Lib.hid (fun d os => OS.out (grow (redrawn w11 d) os) _ v4 sn (A11.out.d1.dv.up (below_regrown w11 d os)) ST4.out)
      refine wp_region_quiet_below (by kernel_rfl) (by kernel_rfl) ?_
      repeat (first
        | (go_big_quiet_want; (with_reducible refine qg_load 29 (.tmp 12) ?_); refine quiet_load_blk 29 (.tmp 12) rfl gn rfl 29 _ BN.out.cls _ Try.underlying29 rfl HI.out ?_; go_big_quiet_on; go_simp)
        | (go_big_quiet_step ((go_at_call_of 15 (h1.d); exact Calls.regrown_of (CS1.out _ _)))))
      refine wpQuiet_nil ?_
      intro p
      obtain ⟨w12, hw12⟩ : ∃ x, x = grow (redrawn w11 p.d) p.os := ⟨_, rfl⟩
      rw [← hw12]
      have up12 : Up w11 w12 := by rw [hw12]; exact below_regrown _ _ _
      clear hw12 CS1
      go_wp2_with fail
      go_ret
      exact ⟨rfl, A11.out.d1.up.trans up12⟩

end Go.Proofs.Ythlpoboijggjnaa
