/- Records that came in; EntryRights. -/
import Derived.Test.YthbfhlphclgnaaaSetE
import Derived.Test.YthbfhlphclgnaaaRowO
import Derived.Lib.QuietBelow
import Derived.SizedLaws
set_option linter.unusedSimpArgs false
set_option linter.unusedVariables false
namespace Go.Proofs.Ythbfhlphclgnaaa
open Go.RowKit Go.Sort

theorem cells_s : Try.prog.cellsOf 44 = 11 ∧ Try.prog.cellsOf 22 = 1 ∧ Try.prog.cellsOf 9 = 1 ∧ Try.prog.cellsOf 4 = 1 ∧ Try.prog.cellsOf 3 = 1 ∧ Try.prog.cellsOf 41 = 3 ∧ Try.prog.cellsOf 42 = 1 ∧ Try.prog.bytesOf 41 = 24 := by
  refine ⟨?_, ?_, ?_, ?_, ?_, ?_, ?_, ?_⟩ <;> kernel_rfl
theorem u64_trod {H : Type} {enc : TypeId × Value → H} {W : World} {n0 : Nat} {c : Value} {x : DataW H × List MemPlace} (hf : DataW.trod enc Try.prog W 0 (fun _ => true) true n0 22 [c] = some x) : ∃ m : Nat, c = .int .u64 (m : Int) ∧ m < 18446744073709551616 := by
  obtain ⟨m1, h1, _, w1⟩ := DataW.trod_int Try.underlying22 hf
  have b1 : 0 ≤ m1 ∧ m1 ≤ 18446744073709551615 := by simpa [Lit.wf, IntKind.min, IntKind.max, IntKind.signed, IntKind.bits] using w1
  simp at h1
  exact ⟨m1.toNat, by rw [h1, show ((m1.toNat : Nat) : Int) = m1 by omega], by omega⟩
theorem open_setc {H : Type} {enc : TypeId × Value → H} {W : World} {n0 : Nat} {cs : List Value} {x : DataW H × List MemPlace}
    (hf : DataW.trod enc Try.prog W 0 (fun _ => true) true n0 44 cs = some x) :
    ∃ y : SetV, cs = setcells y ∧ IsPtrs W y.v y.d.dead ∧ y.d.wf ∧ ((∀ m ∈ x.1.weights Try.prog 44, m ≤ reachBytes) → y.d.dead.length * 24 ≤ 140737488351232) := by
  obtain ⟨k0, k1, k2, k3, k4, k5, k6, k7⟩ := cells_s
  obtain ⟨xs, n, _, rfl, hl, hlen, hg⟩ := DataW.trod_struct Try.underlying44 hf
  rw [k0] at hl
  match cs, hl with
  | [c0, c1, c2, c3, c4, c5, c6, c7, c8, c9, c10], _ =>
  match xs, hlen with
  | [y0, y1, y2, y3, y4, y5, y6, y7, y8], _ =>
  have g0 := hg 0 _ rfl
  have g1 := hg 1 _ rfl
  have g2 := hg 2 _ rfl
  have g3 := hg 3 _ rfl
  have g4 := hg 4 _ rfl
  have g5 := hg 5 _ rfl
  have g6 := hg 6 _ rfl
  have g7 := hg 7 _ rfl
  have g8 := hg 8 _ rfl
  simp [k1, k2, k3, k4, k5, k6] at g0 g1 g2 g3 g4 g5 g6 g7 g8
  obtain ⟨m0, rfl, w0⟩ := u64_trod g0
  obtain ⟨s1, h1, _, _⟩ := DataW.trod_string Try.underlying9 g1
  obtain ⟨b2, h2, _⟩ := DataW.trod_bool Try.underlying4 g2
  obtain ⟨m3, rfl, w3⟩ := u64_trod g3
  obtain ⟨m4, rfl, w4⟩ := u64_trod g4
  obtain ⟨m5, rfl, w5⟩ := u64_trod g5
  obtain ⟨m6, h6, _, w6⟩ := DataW.trod_int Try.underlying3 g6
  obtain ⟨q7, h7, w7⟩ := open_ptrs g7
  obtain ⟨d8, p8⟩ := y8
  obtain ⟨l8, r8, s8, t8, w8⟩ := rows_trod pw (fun p => p.wf) Try.underlying42 k5 (fun _ _ _ h => open_ptrs h) g8
  simp at h1 h2 h6 h7
  obtain ⟨h7, h7', h7''⟩ := h7
  subst h1 h2 h6 h7 h7' h7''
  have b6 : -9223372036854775808 ≤ m6 ∧ m6 ≤ 9223372036854775807 := by simpa [Lit.wf, IntKind.min, IntKind.max, IntKind.signed, IntKind.bits] using w6
  obtain ⟨pa, pc, rfl⟩ := r8.slice
  refine ⟨⟨⟨m0, s1.data.toList, b2, m3, m4, m5, m6, q7, l8⟩, pa, l8.length, pc⟩, rfl, r8, ⟨w0, w3, w4, w5, b6, w7, w8⟩, fun hw => ?_⟩
  show l8.length * 24 ≤ _
  rcases t8 with rfl | ⟨ee, ss, rfl⟩
  · simp [dlen] at s8; simp [s8]
  · have hm := hw ((ee.length + ss.length) * 24) (by
      simp only [DataW.weights, Try.underlying44]
      exact DataW.weights_mem_each (j := 8) rfl rfl _ (by simp [DataW.weights, Try.underlying42, k7]))
    have s8' : l8.length ≤ ee.length + ss.length := s8
    unfold reachBytes at hm
    omega
theorem open_set {H : Type} {enc : TypeId × Value → H} {W : World} {base : Nat} {v : Value} {d : DataW H} {ps : List MemPlace}
    (hval : Value.okWide Try.prog W .any base 44 v) (hd : DataW.Trod enc Try.prog W 0 (fun _ => true) true 44 v d ps) :
    ∃ (x : SetD) (vd : Value), v = .agg (setC x vd) ∧ IsPtrs W vd x.dead ∧ x.wf ∧ ((∀ m ∈ d.weights Try.prog 44, m ≤ reachBytes) → x.dead.length * 24 ≤ 140737488351232) := by
  obtain ⟨cs, rfl, _⟩ := WideShapes.okWide_struct Try.underlying44 hval
  obtain ⟨fuel, hf⟩ := hd
  obtain ⟨y, hy, h1, h2, h3⟩ := open_setc hf
  refine ⟨y.d, y.v, ?_, h1, h2, h3⟩
  have h4 : cs.toList = setcells y := by simpa [Value.cells] using hy
  rw [show cs = cs.toList.toArray from rfl, h4]
  rfl
theorem weigh {H : Type} {P : Program} {ts : List TypeId} {ds : List (DataW H)} (h : (DataW.weightsEach P ts ds).all (· ≤ reachBytes) = true) {j : Nat} {t : TypeId} {d : DataW H} (ht : ts[j]? = some t) (hd : ds[j]? = some d) : ∀ m ∈ d.weights P t, m ≤ reachBytes := fun m hm => by
  have := List.all_eq_true.1 h _ (DataW.weights_mem_each ht hd m hm)
  simpa using this
theorem qg_loadX {P : Program} {a : Act} {C : World → Prop} {K : Act → Prop} {dst : Option Tmp} {type : TypeId} {pos : String} {after : Array Edge} {guard : Option (Nat × Bool)} (ty : TypeId) (x : Operand)
    (h : Oper.quiet P { dst := dst, op := .load ty x, type := type, pos := pos, after := after, guard := guard } a C K) : Oper.quiet P { dst := dst, op := .load ty x, type := type, pos := pos, after := after, guard := guard } a C K := h
set_option maxRecDepth 100000 in
set_option maxHeartbeats 4000000 in
theorem entryRights_walk (w : World) (x : SetD) (vx : Value) (hx : IsPtrs w vx x.dead) (_wx : x.wf) (rx : x.dead.length * 24 ≤ 140737488351232) (y : SetD) (vy : Value) (hy : IsPtrs w vy y.dead) (_wy : y.wf) (_ry : y.dead.length * 24 ≤ 140737488351232) :
    Calls Try.prog 8 #[.agg (setC x vx), .agg (setC y vy)] w fun e w' => e = .returned (.bool true) ∧ Up w w' := by
  obtain ⟨da, dc, rfl⟩ := hx.slice
  obtain ⟨da2, dc2, rfl⟩ := hy.slice
  have upa := up_alloc (w.alloc (.cells (setC x (.slice da x.dead.length dc)) 44)) (.cells (setC y (.slice da2 y.dead.length dc2)) 44)
  have sza := sz_alloc w (.cells (setC x (.slice da x.dead.length dc)) 44)
  have HIX := Lib.hid (info_setV x (.slice da x.dead.length dc))
  have HIY := Lib.hid (info_setV y (.slice da2 y.dead.length dc2))
  have B1 := Lib.hid ((Blk.new w 44 (setC x (.slice da x.dead.length dc))).up upa)
  have b2 := Blk.new (w.alloc (.cells (setC x (.slice da x.dead.length dc)) 44)) 44 (setC y (.slice da2 y.dead.length dc2))
  rw [sza] at b2
  have B2 := Lib.hid b2
  have U1 := Lib.hid ((up_alloc w (.cells (setC x (.slice da x.dead.length dc)) 44)).trans upa)
  have CP := Lib.hid (fun W U => scopy_any W x (.slice da x.dead.length dc) (IsRow.up hx U) (by omega))
  have RA := Lib.hid (fun W U => sright_any W x (.slice da x.dead.length dc) (IsRow.up hx U))
  have RB := Lib.hid (fun W U => srright_any W x (.slice da x.dead.length dc) (IsRow.up hx U))
  have SA := Lib.hid (fun W U => ssame_any W x y (.slice da x.dead.length dc) (.slice da2 y.dead.length dc2) (IsRow.up hx U) (IsRow.up hy U))
  have SB := Lib.hid (fun W U => srsame_any W x y (.slice da x.dead.length dc) (.slice da2 y.dead.length dc2) (IsRow.up hx U) (IsRow.up hy U))
  have SC := Lib.hid (show ∀ W v', Up w W → IsPtrs W v' x.dead → Calls Try.prog 20 #[.agg (setC x v'), .agg (setC x (.slice da x.dead.length dc))] W (fun e w' => BoolUp true W e w') from fun W v' U h => by
    have := srsame_any W x x v' (.slice da x.dead.length dc) h (IsRow.up hx U)
    rw [show sameB x x = true from decide_eq_true rfl] at this
    exact this)
  have INF := Lib.hid (fun v' => info_setV x v')
  have ONE := Lib.hid (fun a n c => setC_one x a n c)
  clear hx hy b2 upa sza
  generalize rightS x = rb at *
  generalize sameB x y = sb at *
  generalize hCx : setC x (.slice da x.dead.length dc) = Cx at *
  generalize setC y (.slice da2 y.dead.length dc2) = Cy at *
  go_enter Try.func8, Try.ntmps8
  go_wp2_with (first
    | ((with_reducible refine wg_load 44 (.tmp 2) ?_); refine wpList_load_blkG rfl 44 (.tmp 2) rfl w.heap.size rfl 44 _ B1.out _ Try.underlying44 rfl HIX.out ?_))
  refine (CP.out _ U1.out).mono ?_
  rintro e w3 ⟨v', rfl, O3, U3⟩
  obtain ⟨na, nc, rfl⟩ := (OwnRow.row O3 pw).slice
  have HIC := Lib.hid (INF.out (.slice na x.dead.length nc))
  have HOC := Lib.hid (ONE.out na x.dead.length nc)
  have HZC := Lib.hid (show zSetC.size = (setC x (.slice na x.dead.length nc)).size from rfl)
  have P3 := Lib.hid (OwnRow.row O3 pw)
  have U4 := Lib.hid (U1.out.trans U3)
  have b5 := Blk.new w3 44 (setC x (.slice na x.dead.length nc))
  have up5 := up_alloc w3 (.cells (setC x (.slice na x.dead.length nc)) 44)
  have B3 := Lib.hid ((B1.out.up U3).up up5)
  have B4 := Lib.hid ((B2.out.up U3).up up5)
  have B5 := Lib.hid b5
  have U5 := Lib.hid (U4.out.trans up5)
  have P5 := Lib.hid (IsRow.up P3.out up5)
  have SC5 := Lib.hid (fun W U => SC.out W (.slice na x.dead.length nc) (U5.out.trans U) (IsRow.up P5.out U))
  clear O3 U3 b5 up5 U1 U4 P3 CP INF ONE SC B1 B2
  generalize setC x (.slice na x.dead.length nc) = Cc at *
  go_wp2_with (first
    | ((with_reducible refine wg_alloc 44 ?_); refine wpList_alloc_blk rfl 44 rfl zSetC zero_set ?_)
    | ((with_reducible refine wg_store 44 (.tmp 5) (.tmp 7) ?_); refine ws_new w3 rfl 44 (.tmp 5) (.tmp 7) rfl Cc 44 zSetC rfl rfl rfl HIC.out HZC.out HOC.out ?_))
  generalize hw5 : w3.alloc (.cells Cc 44) = w5 at *
  generalize w3.heap.size = g5 at *
  have K1 := Lib.hid (fun d os => entryAlive_any (grow (redrawn w5 d) os))
  have K2 := Lib.hid (fun d os => RA.out (grow (redrawn w5 d) os) (U5.out.trans (below_regrown w5 d os)))
  have K3 := Lib.hid (fun d os => RB.out (grow (redrawn w5 d) os) (U5.out.trans (below_regrown w5 d os)))
  have K4 := Lib.hid (fun d os => SA.out (grow (redrawn w5 d) os) (U5.out.trans (below_regrown w5 d os)))
  have K5 := Lib.hid (fun d os => SB.out (grow (redrawn w5 d) os) (U5.out.trans (below_regrown w5 d os)))
  have K6 := Lib.hid (fun d os => SC5.out (grow (redrawn w5 d) os) (below_regrown w5 d os))
  clear RA RB SA SB SC5 hw5 hCx
  simp only [Act.put, List.setIfInBounds_toArray, List.set_cons_zero, List.set_cons_succ]
  refine wp_region_quiet_below (by kernel_rfl) (by kernel_rfl) ?_
  repeat (first
    | (go_big_quiet_want; (with_reducible refine qg_loadX 44 (.tmp 2) ?_); refine quiet_load_blk 44 (.tmp 2) rfl w.heap.size rfl 44 _ B3.out.cls _ Try.underlying44 rfl HIX.out ?_; go_big_quiet_on; go_simp)
    | (go_big_quiet_want; (with_reducible refine qg_loadX 44 (.tmp 3) ?_); refine quiet_load_blk 44 (.tmp 3) rfl (w.heap.size + 1) rfl 44 _ B4.out.cls _ Try.underlying44 rfl HIY.out ?_; go_big_quiet_on; go_simp)
    | (go_big_quiet_want; (with_reducible refine qg_loadX 44 (.tmp 5) ?_); refine quiet_load_blk 44 (.tmp 5) rfl g5 rfl 44 _ B5.out.cls _ Try.underlying44 rfl HIC.out ?_; go_big_quiet_on; go_simp)
    | (go_big_quiet_step (first | (go_at_call 10; exact Calls.regrown_of (K1.out _ _)) | (go_at_call 16; exact Calls.regrown_of (K2.out _ _)) | (go_at_call 18; exact Calls.regrown_of (K3.out _ _)) | (go_at_call 19; exact Calls.regrown_of (K4.out _ _)) | (go_at_call_of 20 (Cc); exact Calls.regrown_of (K6.out _ _)) | (go_at_call_of 20 (Cy); exact Calls.regrown_of (K5.out _ _)))))
  refine wpQuiet_nil ?_
  intro p
  obtain ⟨w6, hw6⟩ : ∃ x, x = grow (redrawn w5 p.d) p.os := ⟨_, rfl⟩
  rw [← hw6]
  have up6 : Up w5 w6 := by rw [hw6]; exact below_regrown _ _ _
  clear hw6
  go_wp2_with fail
  go_ret
  exact ⟨rfl, U5.out.trans up6⟩

end Go.Proofs.Ythbfhlphclgnaaa
