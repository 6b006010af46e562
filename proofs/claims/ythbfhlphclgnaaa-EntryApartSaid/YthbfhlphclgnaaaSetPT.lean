/- The records of bytes: plain functions and laws; no program in sight. The record of bytes: entry.parse: the walk. The records of bytes: entry.Read: the walk. -/
import Derived.Test.YthbfhlphclgnaaaSetL2
import Derived.Test.YthbfhlphclgnaaaFieldP
import Derived.Test.YthbfhlphclgnaaaPtrK
import Derived.Test.YthbfhlphclgnaaaDeadY3
import Derived.Test.YthbfhlphclgnaaaDeadY4
import Derived.StillTail
set_option linter.unusedSimpArgs false
set_option linter.unusedVariables false
namespace Go.Proofs.Ythbfhlphclgnaaa
open Go.RowKit Go.Sort

/-- A record of its numbers, its name, its root and its list. -/
def setOf : List Nat → List UInt8 → PtrD → List PtrD → SetD
  | [a, b, c, d, e, f], q, r, g => ⟨a, q, decide (b = 1), c, d, e, (f : Int), r, g⟩
  | _, q, r, g => ⟨0, q, false, 0, 0, 0, 0, r, g⟩
def parseO (t : List UInt8) : Option SetD :=
  match splitB t with
  | some [p, q, r] => if p.length = 50 then (readB (p.drop 34)).bind fun root => (readL r).map fun gone => setOf (getNums setWs (p.take 34)) q root gone else none
  | _ => none
def parseAll : List (List UInt8) → Option (List SetD)
  | [] => some []
  | t :: r => (parseO t).bind fun x => (parseAll r).map (x :: ·)
def readS (b : List UInt8) : Option (Nat × List SetD) :=
  match splitB b with
  | some (h :: ts) => if h.length = 8 then (parseAll ts).bind fun l => if setsO (numVal h) l = some b then some (numVal h, l) else none else none
  | _ => none

theorem parseAll_snoc : ∀ (ts : List (List UInt8)) (t : List UInt8), parseAll (ts ++ [t]) = (parseAll ts).bind fun l => (parseO t).map fun x => l ++ [x]
  | [], t => by simp [parseAll]; cases parseO t <;> rfl
  | u :: ts, t => by
    rw [List.cons_append, parseAll, parseAll_snoc ts t, parseAll]
    cases parseO u <;> cases parseAll ts <;> cases parseO t <;> rfl
theorem parseAll_none : ∀ (ts : List (List UInt8)) (t : List UInt8), t ∈ ts → parseO t = none → parseAll ts = none
  | u :: ts, t, hm, h => by
    rw [parseAll]
    rcases List.mem_cons.1 hm with rfl | hm
    · rw [h]; rfl
    · rw [parseAll_none ts t hm h]
      cases parseO u <;> rfl
theorem parseAll_length : ∀ (ts : List (List UInt8)) (l : List SetD), parseAll ts = some l → l.length = ts.length
  | [], l, h => by simp [parseAll] at h; subst h; rfl
  | t :: ts, l, h => by
    rw [parseAll] at h
    cases h1 : parseO t with
    | none => rw [h1] at h; cases h
    | some x =>
      cases h2 : parseAll ts with
      | none => rw [h1, h2] at h; cases h
      | some m =>
        rw [h1, h2] at h
        obtain rfl := Option.some.inj h
        simp [parseAll_length ts m h2]
theorem getNums_six (l : List UInt8) : ∃ a b c d e f, getNums setWs l = [a, b, c, d, e, f] := ⟨_, _, _, _, _, _, rfl⟩
theorem setWs_ok : okWs setWs := by unfold okWs setWs; intro w hw; simp at hw; omega
theorem setWs_total : total setWs = 34 := rfl
theorem setNs_back {x : SetD} (hb : 0 ≤ x.blocks) : setOf (setNs x) x.name x.root x.dead = x := by
  obtain ⟨id, name, snap, owner, prev, stamp, blocks, root, dead⟩ := x
  unfold setNs setOf
  have h1 : ((blocks.toNat : Nat) : Int) = blocks := by simp only at hb; omega
  have h2 : decide (snapN snap = 1) = snap := by cases snap <;> decide
  simp [h1, h2]
theorem parseO_rec {x : SetD} (h : rightS x = true) (hw : x.wf) : parseO (recBytes x) = some x := by
  have hj := okJoin_set h
  have hs := split_join _ hj []
  rw [List.append_nil, if_pos rfl] at hs
  have hp := okPut_set h
  obtain ⟨_, _, _, ⟨h4, _⟩, _, h6, h7, h8, _⟩ := (rightS_iff x).1 h
  have hl : (putBytes setWs (setNs x)).length = 34 := putBytes_length setWs (setNs x) hp.1
  have ht : (setHead x).take 34 = putBytes setWs (setNs x) := by unfold setHead; rw [List.take_left' hl]
  have hd : (setHead x).drop 34 = ptrBytes x.root := by unfold setHead; rw [List.drop_left' hl]
  unfold parseO
  unfold recBytes
  rw [hs]
  simp only [setHead_length, if_pos, ht, hd]
  rw [ptrOf_bytes x.root hw.2.2.2.2.2.1 h6, readL_bytes x.dead hw.2.2.2.2.2.2 h7 h8, get_put setWs (setNs x) hp.1 hp.2.2]
  simp [setNs_back (x := x) (by omega)]
theorem parseAll_recs : ∀ (l : List SetD), (∀ x ∈ l, rightS x = true) → (∀ x ∈ l, x.wf) → parseAll (l.map recBytes) = some l
  | [], _, _ => rfl
  | x :: l, h, hw => by
    rw [List.map_cons, parseAll, parseO_rec (h x (List.mem_cons_self)) (hw x (List.mem_cons_self)), parseAll_recs l (fun y hy => h y (List.mem_cons_of_mem _ hy)) (fun y hy => hw y (List.mem_cons_of_mem _ hy))]
    rfl
theorem setsO_some {next : Nat} {l : List SetD} {b : List UInt8} (h : setsO next l = some b) : next ≤ 281474976710655 ∧ l.length ≤ 32 ∧ (∀ x ∈ l, rightS x = true) ∧ b = joinBytes (setsTexts next l) := by
  unfold setsO at h
  split at h
  · rename_i hh
    exact ⟨hh.1, hh.2.1, hh.2.2, (Option.some.inj h).symm⟩
  · cases h
theorem numVal_head {next : Nat} (h : next ≤ 281474976710655) : numVal (headBytes next) = next := by
  unfold headBytes
  show numVal (numBytes next 8 ++ []) = next
  rw [List.append_nil]
  exact numVal_bytes 8 next (by omega)
/-- There and back. -/
theorem readS_there {next : Nat} {l : List SetD} {b : List UInt8} (h : setsO next l = some b) (hw : ∀ x ∈ l, x.wf) : readS b = some (next, l) := by
  obtain ⟨h1, h2, h3, rfl⟩ := setsO_some h
  have hs := split_join _ (okJoin_sets (next := next) h2 h3) []
  rw [List.append_nil, if_pos rfl] at hs
  unfold readS
  rw [hs]
  unfold setsTexts
  simp only [headBytes_length, if_true, parseAll_recs l h3 hw, numVal_head h1, Option.bind_some]
  exact if_pos h
theorem readS_back {next : Nat} {l : List SetD} {b : List UInt8} (h : readS b = some (next, l)) : setsO next l = some b := by
  unfold readS at h
  split at h
  · rename_i hd ts _
    split at h
    · cases hp : parseAll ts with
      | none => rw [hp] at h; cases h
      | some m =>
        rw [hp] at h
        simp only [Option.bind_some] at h
        split at h
        · rename_i hs
          simp only [Option.some.injEq, Prod.mk.injEq] at h
          obtain ⟨rfl, rfl⟩ := h
          exact hs
        · cases h
    · cases h
  · cases h
theorem setsO_inj {n m : Nat} {l k : List SetD} {b : List UInt8} (h1 : setsO n l = some b) (h2 : setsO m k = some b) (w1 : ∀ x ∈ l, x.wf) (w2 : ∀ x ∈ k, x.wf) : n = m ∧ l = k := by
  have := (readS_there h1 w1).symm.trans (readS_there h2 w2)
  simpa using this
/-- What a parsed record is made of fits its kinds. -/
theorem readB_wf {b : List UInt8} {p : PtrD} (h : readB b = some p) : p.wf := by
  unfold readB at h
  split at h
  · rename_i hh
    obtain rfl := Option.some.inj h
    have h1 := numVal_le (l := b.take 4) (k := 4) (by simp; omega)
    have h2 := numVal_le (l := (b.drop 4).take 8) (k := 8) (by simp; omega)
    have h3 := numVal_le (l := b.drop 12) (k := 4) (by simp; omega)
    unfold PtrD.wf ptrOf
    simp only
    omega
  · cases h
theorem readTo_wf {b : List UInt8} : ∀ (k : Nat) (l : List PtrD), readTo b k = some l → ∀ p ∈ l, p.wf
  | 0, l, h => by simp [readTo] at h; subst h; intro p hp; cases hp
  | k + 1, l, h => by
    rw [readTo] at h
    cases h1 : readTo b k with
    | none => rw [h1] at h; cases h
    | some m =>
      rw [h1] at h
      cases h2 : readB (pieceB b k) with
      | none => rw [h2] at h; cases h
      | some p =>
        rw [h2] at h
        obtain rfl := Option.some.inj h
        intro q hq
        rcases List.mem_append.1 hq with hq | hq
        · exact readTo_wf k m h1 q hq
        · simp at hq; subst hq; exact readB_wf h2
theorem readL_wf {b : List UInt8} {l : List PtrD} (h : readL b = some l) : ∀ p ∈ l, p.wf := by
  unfold readL at h
  split at h
  · cases h1 : readTo b (b.length / 16) with
    | none => rw [h1] at h; cases h
    | some m =>
      rw [h1] at h
      unfold rightO at h
      split at h
      · rename_i heq
        cases heq
        split at h
        · obtain rfl := Option.some.inj h
          exact readTo_wf _ _ h1
        · cases h
      · cases h
  · cases h
theorem six_lt {l : List UInt8} {a b c d e f : Nat} (h : getNums setWs l = [a, b, c, d, e, f]) : f < 256 := by
  have hb : ∀ n ∈ getNums [1] (l.drop 33), n < 256 := fun n hn => by
    simp [getNums] at hn
    subst hn
    have := numVal_le (l := (l.drop 33).take 1) (k := 1) (by simp; omega)
    omega
  have hsplit : getNums setWs l = getNums [8, 1, 8, 8, 8] l ++ getNums [1] (l.drop 33) := getNums_append [8, 1, 8, 8, 8] [1] l
  have hn : (getNums setWs l)[5]? = some f := by rw [h]; rfl
  rw [hsplit, List.getElem?_append_right (by rw [getNums_length]; exact Nat.le_refl _), getNums_length] at hn
  exact hb f (List.mem_of_getElem? hn)
theorem setOf_wf {b q : List UInt8} {r : PtrD} {g : List PtrD} (hr : r.wf) (hg : ∀ p ∈ g, p.wf) : (setOf (getNums setWs b) q r g).wf := by
  have h := getNums_lt setWs_ok b
  obtain ⟨n1, n2, n3, n4, n5, n6, he⟩ := getNums_six b
  have h6 := six_lt he
  rw [he] at h ⊢
  simp at h
  unfold setOf SetD.wf
  simp only
  exact ⟨h.1, h.2.2.1, h.2.2.2.1, h.2.2.2.2.1, by omega, hr, hg⟩
theorem parseO_wf {t : List UInt8} {x : SetD} (h : parseO t = some x) : x.wf := by
  unfold parseO at h
  split at h
  · rename_i p q r _
    split at h
    · cases h1 : readB (p.drop 34) with
      | none => rw [h1] at h; cases h
      | some root =>
        cases h2 : readL r with
        | none => rw [h1, h2] at h; cases h
        | some gone =>
          rw [h1, h2] at h
          obtain rfl := Option.some.inj h
          exact setOf_wf (readB_wf h1) (readL_wf h2)
    · cases h
  · cases h
theorem readL_short {b : List UInt8} {l : List PtrD} (h : readL b = some l) : l.length ≤ 4000 := by
  unfold readL at h
  split at h
  · rename_i hh
    cases h1 : readTo b (b.length / 16) with
    | none => rw [h1] at h; cases h
    | some m =>
      rw [h1] at h
      unfold rightO at h
      split at h
      · rename_i heq
        cases heq
        split at h
        · obtain rfl := Option.some.inj h
          have := readTo_length h1
          omega
        · cases h
      · cases h
  · cases h
end Go.Proofs.Ythbfhlphclgnaaa

set_option linter.unusedSimpArgs false
set_option linter.unusedVariables false
namespace Go.Proofs.Ythbfhlphclgnaaa
open Go.RowKit Go.Sort

section
variable {P : Program}
theorem results_blk2 {fn : Func} {p u : Tmp} {ty : TypeId} (h : fn.results = #[.cell p ty, .tmp u]) (tmps : Array Value) (P : Program) (w : World) (g : Nat) (t : TypeId) (C : Array Value) (x : Value)
    (hp : tmps.getD p undef = .pointer (some ⟨g, 0, none⟩)) (hu : tmps.getD u undef = x) (hb : Blk w g t C) (d : TypeDesc) (hd : P.underlying ty = some d) (hr : d.isRow = true) (hi : (P.info? ty).map (·.size) = some C.size) :
    (results fn tmps).run P w = .ok (.tuple #[.agg C, x]) w := by
  rw [results_cell_tmp h, hp, hu]
  simp [asAddr, Result.andThen, run_load_blk (P := P) ty g t C hb d hd hr hi]
theorem ws_load_part {ops : Array Oper} {rest : List Oper} {op : Oper} {a : Act} {w : World} {Q : Act → Prop} (hw : Region.wanted op (yielded ops a.tmps) = true) (ty : TypeId) (x : Operand) (ho : op.op = .load ty x)
    (g off : Nat) (hx : a.eval x = .pointer (some ⟨g, off, none⟩)) (C : Array Value) (hc : w.rangeAt g off C.toList) (d : TypeDesc) (hu : P.underlying ty = some d) (hd : d.isRow = true) (hi : (P.info? ty).map (·.size) = some C.size)
    (h : wpStill P ops w Q rest (a.put op.dst (.agg C))) : wpStill P ops w Q (op :: rest) a := by
  refine wpStill_step fun K hK => ?_
  rw [if_pos hw]
  unfold Oper.still execOp
  have := run_loadVar_mid (P := P) w g off ty C.toList d hc hu hd (by simpa using hi)
  simp only [ho, hx, Instr.loadAt, Instr.sureAddr, Sem.run_bind, Sem.run_pure, Result.andThen_ok, this]
  exact ⟨rfl, hK _ (by simpa using h)⟩
theorem ws_build {ops : Array Oper} {rest : List Oper} {op : Oper} {a : Act} {w : World} {Q : Act → Prop} (hw : Region.wanted op (yielded ops a.tmps) = true) (t : TypeId) (parts : Array (Nat × Operand)) (ho : op.op = .build t parts) (C : Array Value)
    (hb : P.built t (parts.map fun (i, x) => (i, a.eval x)).toList = some C) (h : wpStill P ops w Q rest (a.put op.dst (.agg C))) : wpStill P ops w Q (op :: rest) a := by
  refine wpStill_step fun K hK => ?_
  rw [if_pos hw]
  unfold Oper.still execOp
  simp only [ho, Sem.run_bind, run_build w t _ C hb, Result.andThen_ok]
  exact ⟨rfl, hK _ h⟩
theorem ws_build9 {ops : Array Oper} {rest : List Oper} {op : Oper} {a : Act} {w : World} {Q : Act → Prop} (hw : Region.wanted op (yielded ops a.tmps) = true) (t : TypeId) (i0 i1 i2 i3 i4 i5 i6 i7 i8 : Nat) (x0 x1 x2 x3 x4 x5 x6 x7 x8 : Operand) (ho : op.op = .build t #[(i0, x0), (i1, x1), (i2, x2), (i3, x3), (i4, x4), (i5, x5), (i6, x6), (i7, x7), (i8, x8)])
    (v0 v1 v2 v3 v4 v5 v6 v7 v8 : Value) (C : Array Value) (hb : P.built t [(i0, v0), (i1, v1), (i2, v2), (i3, v3), (i4, v4), (i5, v5), (i6, v6), (i7, v7), (i8, v8)] = some C) (h0 : a.eval x0 = v0) (h1 : a.eval x1 = v1) (h2 : a.eval x2 = v2) (h3 : a.eval x3 = v3) (h4 : a.eval x4 = v4) (h5 : a.eval x5 = v5) (h6 : a.eval x6 = v6) (h7 : a.eval x7 = v7) (h8 : a.eval x8 = v8) (h : wpStill P ops w Q rest (a.put op.dst (.agg C))) : wpStill P ops w Q (op :: rest) a :=
  ws_build hw t #[(i0, x0), (i1, x1), (i2, x2), (i3, x3), (i4, x4), (i5, x5), (i6, x6), (i7, x7), (i8, x8)] ho C (by simp only [List.map_toArray, List.map_cons, List.map_nil, h0, h1, h2, h3, h4, h5, h6, h7, h8, hb]) h
theorem ws_convert {ops : Array Oper} {rest : List Oper} {op : Oper} {a : Act} {w : World} {Q : Act → Prop} (hw : Region.wanted op (yielded ops a.tmps) = true) (t u : TypeId) (x : Operand) (ho : op.op = .convert t u x) (v r : Value) (hx : a.eval x = v)
    (hr : (convert t u v).run P w = .ok r w) (h : wpStill P ops w Q rest (a.put op.dst r)) : wpStill P ops w Q (op :: rest) a := by
  refine wpStill_step fun K hK => ?_
  rw [if_pos hw]
  unfold Oper.still execOp
  simp only [ho, hx, Sem.run_bind, hr, Result.andThen_ok, Sem.run_pure]
  exact ⟨rfl, hK _ h⟩
theorem wgs_load {ops : Array Oper} {Q : Act → Prop} {rest : List Oper} {a : Act} {w : World} {dst : Option Tmp} {type : TypeId} {pos : String} {after : Array Edge} {guard : Option (Nat × Bool)} (ty : TypeId) (x : Operand) (h : wpStill P ops w Q ({ dst := dst, op := .load ty x, type := type, pos := pos, after := after, guard := guard } :: rest) a) :
    wpStill P ops w Q ({ dst := dst, op := .load ty x, type := type, pos := pos, after := after, guard := guard } :: rest) a := h
theorem wgs_build {ops : Array Oper} {Q : Act → Prop} {rest : List Oper} {a : Act} {w : World} {dst : Option Tmp} {type : TypeId} {pos : String} {after : Array Edge} {guard : Option (Nat × Bool)} (ty : TypeId) (parts : Array (Nat × Operand)) (h : wpStill P ops w Q ({ dst := dst, op := .build ty parts, type := type, pos := pos, after := after, guard := guard } :: rest) a) :
    wpStill P ops w Q ({ dst := dst, op := .build ty parts, type := type, pos := pos, after := after, guard := guard } :: rest) a := h
theorem wgs_convert {ops : Array Oper} {Q : Act → Prop} {rest : List Oper} {a : Act} {w : World} {dst : Option Tmp} {type : TypeId} {pos : String} {after : Array Edge} {guard : Option (Nat × Bool)} (ty ty2 : TypeId) (x : Operand) (h : wpStill P ops w Q ({ dst := dst, op := .convert ty ty2 x, type := type, pos := pos, after := after, guard := guard } :: rest) a) :
    wpStill P ops w Q ({ dst := dst, op := .convert ty ty2 x, type := type, pos := pos, after := after, guard := guard } :: rest) a := h
end
theorem built_zset : Try.prog.built 44 [] = some zSetC := by kernel_rfl
theorem info_zset : (Try.prog.info? 44).map (·.size) = some zSetC.size := by kernel_rfl
theorem zset_one : zSetC.all (·.oneCell') = true := setC_one zSet none 0 0
theorem built_set (x : SetD) (da : Option Addr) (dn dc : Nat) : Try.prog.built 44 [(0, .int .u64 (x.id : Int)), (1, .string (strOf x.name)), (2, .bool x.snap), (3, .int .u64 (x.owner : Int)), (4, .int .u64 (x.prev : Int)), (5, .int .u64 (x.stamp : Int)), (6, .int .i64 x.blocks), (7, .agg (pcA x.root)), (8, .slice da dn dc)] = some (setC x (.slice da dn dc)) := by kernel_rfl
theorem built_setQ (a b c d e f : Nat) (q : List UInt8) (r : PtrD) (g : List PtrD) (da : Option Addr) (dn dc : Nat) : Try.prog.built 44 [(0, .int .u64 (a : Int)), (1, .string (strOf q)), (2, .bool ((b : Int) == 1)), (3, .int .u64 (c : Int)), (4, .int .u64 (d : Int)), (5, .int .u64 (e : Int)), (6, .int .i64 (f : Int)), (7, .agg (pcA r)), (8, .slice da dn dc)] = some (setC (setOf [a, b, c, d, e, f] q r g) (.slice da dn dc)) := by
  have h := built_set (setOf [a, b, c, d, e, f] q r g) da dn dc
  have hb : ((b : Int) == 1) = decide (b = 1) := by rw [Bool.eq_iff_iff]; simp; omega
  rw [hb]
  exact h

def ParsePost (o : Option SetD) (w : World) (e : Ending) (w' : World) : Prop :=
  (o = none ∧ e = .returned (.tuple #[.agg zSetC, .int .i64 151]) ∧ Up w w') ∨
  ∃ x da dn dc, o = some x ∧ e = .returned (.tuple #[.agg (setC x (.slice da dn dc)), .int .i64 0]) ∧ OwnPtrs w' w.heap.size (.slice da dn dc) x.dead ∧ Up w w'

theorem parse_split {b : List UInt8} (h : splitB b = none) : parseO b = none := by unfold parseO; rw [h]
theorem parse_many {b : List UInt8} {ts : List (List UInt8)} (h : splitB b = some ts) (h3 : ts.length ≠ 3) : parseO b = none := by
  unfold parseO
  rw [h]
  match ts, h3 with
  | [], _ => rfl
  | [_], _ => rfl
  | [_, _], _ => rfl
  | [_, _, _], h3 => exact absurd rfl h3
  | _ :: _ :: _ :: _ :: _, _ => rfl
theorem parse_three {b p q r : List UInt8} (h : splitB b = some [p, q, r]) : parseO b = if p.length = 50 then (readB (p.drop 34)).bind fun root => (readL r).map fun gone => setOf (getNums setWs (p.take 34)) q root gone else none := by
  unfold parseO; rw [h]
theorem parse_short {b p q r : List UInt8} (h : splitB b = some [p, q, r]) (hp : p.length < 34) : parseO b = none := by rw [parse_three h, if_neg (by omega)]
theorem parse_root {b p q r : List UInt8} (h : splitB b = some [p, q, r]) (hr : readB (p.drop 34) = none) : parseO b = none := by
  rw [parse_three h, hr]
  split <;> rfl
theorem readB_len {l : List UInt8} {p : PtrD} (h : readB l = some p) : l.length = 16 := by
  unfold readB at h
  split at h
  · rename_i hh; exact hh.1
  · cases h
theorem parse_list {b p q r : List UInt8} (h : splitB b = some [p, q, r]) (hl : readL r = none) : parseO b = none := by
  rw [parse_three h, hl]
  split
  · cases readB (p.drop 34) <;> rfl
  · rfl
theorem parse_done {b p q r : List UInt8} {root : PtrD} {gone : List PtrD} (h : splitB b = some [p, q, r]) (hp : 34 ≤ p.length) (hr : readB (p.drop 34) = some root) (hl : readL r = some gone) : parseO b = some (setOf (getNums setWs (p.take 34)) q root gone) := by
  have := readB_len hr
  rw [List.length_drop] at this
  rw [parse_three h, if_pos (by omega), hr, hl]
  rfl

set_option maxRecDepth 100000 in
set_option maxHeartbeats 8000000 in
theorem parse_any (w : World) (v : Value) (b : List UInt8) (hv : IsBytes w v b) :
    Calls Try.prog 23 #[v] w fun e w' => ParsePost (parseO b) w e w' := by
  have U1 := Lib.hid (up_alloc w (.cells zSetC 44))
  have SP := Lib.hid (split_any (w.alloc (.cells zSetC 44)) v b (hv.up U1.out))
  have B1 := Lib.hid (Blk.new w 44 zSetC)
  have BZ := Lib.hid built_zset
  have HZI := Lib.hid info_zset
  have HZ1 := Lib.hid zset_one
  obtain ⟨va, vc, rfl⟩ := hv.slice
  clear hv
  go_enter Try.func23, Try.ntmps23
  go_wp2_with (first
    | ((with_reducible refine wg_alloc 44 ?_); refine wpList_alloc_blk rfl 44 rfl zSetC zero_set ?_))
  refine SP.out.mono ?_
  rintro e w2 (⟨ts, hts, v2, rfl, OT, U2⟩ | ⟨hbad, rfl, U2⟩)
  rotate_left
  · have HF := Lib.hid (parse_split hbad)
    have B2 := Lib.hid (B1.out.up U2)
    have U3 := Lib.hid (U1.out.trans U2)
    clear hbad U2 SP B1 U1
    go_wp2_with (first
      | ((with_reducible refine wg_build 44 #[] ?_); refine wpList_build0 rfl 44 rfl zSetC BZ.out ?_)
      | ((with_reducible refine wg_store 44 (.tmp 2) (.tmp 28) ?_); refine wpList_store_blk rfl 44 (.tmp 2) (.tmp 28) rfl w.heap.size zSetC rfl rfl 44 zSetC B2.out HZI.out rfl HZ1.out ?_))
    intro w9 b9 g9
    have U9 := U3.out.below_trans (below_grown g9 (Nat.le_of_lt B2.out.lt) (fun j hj => by cases hj; exact Nat.le_refl _)) (Nat.le_refl _)
    go_wp2_with fail
    (try simp only [Exit.inBlock, Exit.then])
    exact bodyPost_ret (v := .tuple #[.agg zSetC, .int .i64 151]) (results_blk2 rfl _ _ _ w.heap.size 44 _ _ rfl rfl b9 _ Try.underlying44 rfl HZI.out) rfl (.inl ⟨HF.out, rfl, U9⟩)
  have HTS := Lib.hid hts
  have B2 := Lib.hid (B1.out.up U2)
  have U3 := Lib.hid (U1.out.trans U2)
  have IT := OT.texts
  have SZ1 := Lib.hid (sz_alloc w (.cells zSetC 44))
  by_cases h3 : ts.length = 3
  rotate_left
  · have HF := Lib.hid (parse_many HTS.out h3)
    have hlt : ts.length ≤ 9223372036854775807 := by
      obtain ⟨vs, hvl, hvo, _⟩ := IT
      have := hvo.length_le
      omega
    obtain ⟨vs, hvl, hvo, hve⟩ := OT
    obtain ⟨ta, tc, rfl⟩ := (Own.ones hvo).slice
    rw [hvl] at *
    have b3 : ((ts.length : Int) != 3) = true := by simp; omega
    clear hts U2 SP B1 U1 IT hve hvo hvl HTS SZ1
    generalize ts.length = tn at *
    clear h3
    go_wp2_with (first
      | ((with_reducible refine wg_build 44 #[] ?_); refine wpList_build0 rfl 44 rfl zSetC BZ.out ?_)
      | ((with_reducible refine wg_store 44 (.tmp 2) (.tmp 28) ?_); refine wpList_store_blk rfl 44 (.tmp 2) (.tmp 28) rfl w.heap.size zSetC rfl rfl 44 zSetC B2.out HZI.out rfl HZ1.out ?_))
    intro w9 b9 g9
    have U9 := U3.out.below_trans (below_grown g9 (Nat.le_of_lt B2.out.lt) (fun j hj => by cases hj; exact Nat.le_refl _)) (Nat.le_refl _)
    go_wp2_with fail
    (try simp only [Exit.inBlock, Exit.then])
    exact bodyPost_ret (v := .tuple #[.agg zSetC, .int .i64 151]) (results_blk2 rfl _ _ _ w.heap.size 44 _ _ rfl rfl b9 _ Try.underlying44 rfl HZI.out) rfl (.inl ⟨HF.out, rfl, U9⟩)
  obtain ⟨p, q, r, rfl⟩ : ∃ p q r, ts = [p, q, r] := by
    match ts, h3 with
    | [p, q, r], _ => exact ⟨p, q, r, rfl⟩
  obtain ⟨vs, hvl, hvo, hve⟩ := OT
  obtain ⟨x, y, z, rfl⟩ : ∃ x y z, vs = [x, y, z] := by
    match vs, hvl with
    | [x, y, z], _ => exact ⟨x, y, z, rfl⟩
  have hx := (hve 0 (by simp) (by simp)).ones
  have hy := (hve 1 (by simp) (by simp)).ones
  have hz := (hve 2 (by simp) (by simp)).ones
  obtain ⟨g, cap, rfl, _, _, hcells, _, _⟩ := Own.row hvo (by simp)
  have c0 : w2.cell? ⟨g, 0, none⟩ = some (slCell x) := hcells 0 (by simp)
  have c1 : w2.cell? ⟨g, 1, none⟩ = some (slCell y) := hcells 1 (by simp)
  have c2 : w2.cell? ⟨g, 2, none⟩ = some (slCell z) := hcells 2 (by simp)
  obtain ⟨xa, xn, xc⟩ := x
  obtain ⟨ya, yn, yc⟩ := y
  obtain ⟨za, zn, zc⟩ := z
  simp only [List.getElem_cons_zero, List.getElem_cons_succ] at hx hy hz
  unfold slCell at c0 c1 c2 hx hy hz
  simp only at c0 c1 c2 hx hy hz
  obtain rfl : xn = p.length := by obtain ⟨_, _, h⟩ := hx.slice; simp at h; exact h.2.1
  have HX := Lib.hid hx
  have HY := Lib.hid hy
  have HZ := Lib.hid hz
  have hpl := hx.length_le
  have hpc : p.length ≤ xc := by
    rcases HX.out with ⟨h, _, _, hxx, _, _⟩ | ⟨_, _, _, hxx, _, h1, _⟩
    · simp [h]
    · simp at hxx; omega
  clear hts U2 SP B1 U1 IT hve hvo hcells hx hy hz hvl h3
  (try simp only [List.length_cons, List.length_nil, Nat.zero_add, Nat.reduceAdd])
  by_cases h34 : p.length < 34
  · have HF := Lib.hid (parse_short HTS.out h34)
    have b4 : ((p.length : Int) < 34) = True := by simp; omega
    generalize p.length = pn at *
    clear HTS HX HY HZ
    go_wp2_with (first
      | ((with_reducible refine wg_build 44 #[] ?_); refine wpList_build0 rfl 44 rfl zSetC BZ.out ?_)
      | ((with_reducible refine wg_store 44 (.tmp 2) (.tmp 28) ?_); refine wpList_store_blk rfl 44 (.tmp 2) (.tmp 28) rfl w.heap.size zSetC rfl rfl 44 zSetC B2.out HZI.out rfl HZ1.out ?_))
    intro w9 b9 g9
    have U9 := U3.out.below_trans (below_grown g9 (Nat.le_of_lt B2.out.lt) (fun j hj => by cases hj; exact Nat.le_refl _)) (Nat.le_refl _)
    go_wp2_with fail
    (try simp only [Exit.inBlock, Exit.then])
    exact bodyPost_ret (v := .tuple #[.agg zSetC, .int .i64 151]) (results_blk2 rfl _ _ _ w.heap.size 44 _ _ rfl rfl b9 _ Try.underlying44 rfl HZI.out) rfl (.inl ⟨HF.out, rfl, U9⟩)
  have b4 : ((p.length : Int) < 34) = False := by simp; omega
  obtain ⟨pn, hpn⟩ : ∃ n, n = p.length := ⟨_, rfl⟩
  obtain ⟨v1, hv1⟩ : ∃ x, x = pieceOf xa 0 34 xc := ⟨_, rfl⟩
  obtain ⟨v3, hv3⟩ : ∃ x, x = pieceOf xa 34 p.length xc := ⟨_, rfl⟩
  have PT : ∀ W, (Instr.slice 29 (.slice xa p.length xc) none (some (.int .i64 34)) none).run Try.prog W = .ok v1 W := fun W => by
    rw [hv1]; exact run_piece_to (P := Try.prog) 29 bytes_elem bytes_size xa p.length xc 34 (by omega) W
  have PF : ∀ W, (Instr.slice 29 (.slice xa p.length xc) (some (.int .i64 34)) none none).run Try.prog W = .ok v3 W := fun W => by
    rw [hv3]; exact run_piece_from (P := Try.prog) 29 bytes_elem bytes_size xa p.length xc 34 (by omega) W
  have V1 := Lib.hid (show IsBytes w2 v1 (p.take 34) by
    have := IsOnes.piece HX.out (lo := 0) (hi := 34) (by omega) (by omega)
    rw [hv1]
    simpa using this)
  have V3 := Lib.hid (show IsBytes w2 v3 (p.drop 34) by
    have := IsOnes.piece HX.out (lo := 34) (hi := p.length) (by omega) (by omega)
    rw [hv3]
    simpa using this)
  have P34 := Lib.hid (show 34 ≤ p.length by omega)
  have UA := up_alloc w2 (.cells #[.int .i64 8, .int .i64 1, .int .i64 8, .int .i64 8, .int .i64 8, .int .i64 1] 3)
  have GT := Lib.hid (show Calls Try.prog 22 #[.slice (some ⟨w2.heap.size, 0, none⟩) 6 6, v1] (w2.alloc (.cells #[.int .i64 8, .int .i64 1, .int .i64 8, .int .i64 8, .int .i64 8, .int .i64 1] 3)) (fun e w' => ∃ v, e = .returned (.tuple #[v, .int .i64 0]) ∧ Own u64Cell 22 w' w.heap.size v (getNums setWs (p.take 34)) ∧ Up w2 w') from by
    have i1 : IsOnes intCell _ (.slice (some ⟨w2.heap.size, 0, none⟩) 6 6) setWs := IsOnes.litAt (f := intCell) w2 w2.heap.size rfl #[.int .i64 8, .int .i64 1, .int .i64 8, .int .i64 8, .int .i64 8, .int .i64 1] 3 (0, 0) setWs 6 rfl (by unfold maxLen; omega) rfl
    refine (get_any _ _ setWs i1 (by simp [setWs]) v1 (p.take 34) (V1.out.up UA)).mono fun e w' h => ?_
    rcases h with ⟨_, v, rfl, ho, hu⟩ | ⟨hno, _⟩
    · exact ⟨v, rfl, ho.mono (Nat.le_trans U3.out.size UA.size), UA.trans hu⟩
    · refine absurd ⟨setWs_ok, ?_⟩ hno
      rw [setWs_total, List.length_take]
      have := P34.out
      omega)
  have hcn : p.length = pn := hpn.symm
  have HCN := Lib.hid hcn
  rw [hcn] at PT PF hpl b4 c0
  (try simp only [hcn])
  have c0' := UA.cell c0
  have c1' := UA.cell c1
  have c2' := UA.cell c2
  clear hv1 hv3 hpn hcn hpc h34 HX
  go_wp2_with fail
  refine GT.out.mono ?_
  rintro e w4 ⟨v7, rfl, O7, U4⟩
  obtain ⟨a, b', c, d, e', f, hnums⟩ := getNums_six (p.take 34)
  have hf : f < 256 := six_lt hnums
  rw [hnums] at O7
  have HN6 := Lib.hid hnums
  obtain ⟨g7, cap7, rfl, _, _, hc7, _, _⟩ := Own.row O7 (by simp)
  have n0 : w4.cell? ⟨g7, 0, none⟩ = some (.int .u64 (a : Int)) := hc7 0 (by simp)
  have n1 : w4.cell? ⟨g7, 1, none⟩ = some (.int .u64 (b' : Int)) := hc7 1 (by simp)
  have n2 : w4.cell? ⟨g7, 2, none⟩ = some (.int .u64 (c : Int)) := hc7 2 (by simp)
  have n3 : w4.cell? ⟨g7, 3, none⟩ = some (.int .u64 (d : Int)) := hc7 3 (by simp)
  have n4 : w4.cell? ⟨g7, 4, none⟩ = some (.int .u64 (e' : Int)) := hc7 4 (by simp)
  have n5 : w4.cell? ⟨g7, 5, none⟩ = some (.int .u64 (f : Int)) := hc7 5 (by simp)
  have k0 := U4.cell c0
  have k1 := U4.cell c1
  have k2 := U4.cell c2
  have B4 := Lib.hid (B2.out.up U4)
  have U5 := Lib.hid (U3.out.trans U4)
  have RD := Lib.hid (read_any w4 v3 (p.drop 34) (V3.out.up U4))
  unfold PRead at RD
  have HY4 := Lib.hid (HY.out.up U4)
  have HZ4 := Lib.hid (HZ.out.up U4)
  have wf := wrap_i64_nat f (by omega)
  clear c0 c1 c2 c0' c1' c2' UA GT U4 B2 U3 HY HZ hc7 O7 hnums V1 V3 PT hf
  (try simp only [List.length_cons, List.length_nil, Nat.zero_add, Nat.reduceAdd])
  go_wp2_with fail
  refine RD.out.mono ?_
  rintro e w5 (⟨root, hroot, rfl, U6⟩ | ⟨hbad, rfl, U6⟩)
  rotate_left
  · have HF := Lib.hid (parse_root HTS.out hbad)
    have U6' := U6.trans (up_alloc w5 (.cells (pcA hole) 41))
    have B5 := Lib.hid (B4.out.up U6')
    have U7 := Lib.hid (U5.out.trans U6')
    clear hbad U6 U6' RD HTS B4 U5 n0 n1 n2 n3 n4 n5 k0 k1 k2 HY4 HZ4 PF
    unfold ptrV hole
    unfold pcA hole at B5 U7
    go_wp2_with (first
      | ((with_reducible refine wg_build 44 #[] ?_); refine wpList_build0 rfl 44 rfl zSetC BZ.out ?_)
      | ((with_reducible refine wg_store 44 (.tmp 2) (.tmp 51) ?_); refine wpList_store_blk rfl 44 (.tmp 2) (.tmp 51) rfl w.heap.size zSetC rfl rfl 44 zSetC B5.out HZI.out rfl HZ1.out ?_))
    intro w9 b9 g9
    have U9 := U7.out.below_trans (below_grown g9 (Nat.le_of_lt B5.out.lt) (fun j hj => by cases hj; exact Nat.le_refl _)) (Nat.le_refl _)
    go_wp2_with fail
    (try simp only [Exit.inBlock, Exit.then])
    exact bodyPost_ret (v := .tuple #[.agg zSetC, .int .i64 151]) (results_blk2 rfl _ _ _ w.heap.size 44 _ _ rfl rfl b9 _ Try.underlying44 rfl HZI.out) rfl (.inl ⟨HF.out, rfl, U9⟩)
  have HROOT := Lib.hid hroot
  have U6' := U6.trans (up_alloc w5 (.cells (pcA root) 41))
  have BR := Lib.hid (Blk.new w5 41 (pcA root))
  have B5 := Lib.hid (B4.out.up U6')
  have U7 := Lib.hid (U5.out.trans U6')
  have DR := Lib.hid (lreadO_any (w5.alloc (.cells (pcA root) 41)) (.slice za zn zc) r (HZ4.out.up U6'))
  unfold ReadPostO at DR
  have HY5 := Lib.hid (HY4.out.up U6')
  have SZ5 := Lib.hid (sz_alloc w5 (.cells (pcA root) 41))
  have m0 := U6'.cell n0
  have m1 := U6'.cell n1
  have m2 := U6'.cell n2
  have m3 := U6'.cell n3
  have m4 := U6'.cell n4
  have m5 := U6'.cell n5
  have l0 := U6'.cell k0
  have l1 := U6'.cell k1
  have l2 := U6'.cell k2
  clear hroot U6 U6' RD B4 U5 n0 n1 n2 n3 n4 n5 k0 k1 k2 HY4 HZ4 PF
  obtain ⟨pl, pb, ps⟩ := root
  unfold ptrV
  unfold pcA at *
  simp only at *
  obtain ⟨zr, hzr⟩ : ∃ n, n = zn := ⟨_, rfl⟩
  go_wp2_with fail
  refine DR.out.mono ?_
  rintro e w6 (⟨hbad, rfl, U8⟩ | ⟨gone, u, hgone, rfl, OG, U8⟩)
  · have HF := Lib.hid (parse_list HTS.out hbad)
    have B6 := Lib.hid (B5.out.up U8)
    have U9' := Lib.hid (U7.out.trans U8)
    clear hbad U8 DR HTS B5 U7 m0 m1 m2 m3 m4 m5 l0 l1 l2 HY5 BR hzr
    go_wp2_with (first
      | ((with_reducible refine wg_build 44 #[] ?_); refine wpList_build0 rfl 44 rfl zSetC BZ.out ?_)
      | ((with_reducible refine wg_store 44 (.tmp 2) (.tmp 61) ?_); refine wpList_store_blk rfl 44 (.tmp 2) (.tmp 61) rfl w.heap.size zSetC rfl rfl 44 zSetC B6.out HZI.out rfl HZ1.out ?_))
    intro w9 b9 g9
    have U9 := U9'.out.below_trans (below_grown g9 (Nat.le_of_lt B6.out.lt) (fun j hj => by cases hj; exact Nat.le_refl _)) (Nat.le_refl _)
    go_wp2_with fail
    (try simp only [Exit.inBlock, Exit.then])
    exact bodyPost_ret (v := .tuple #[.agg zSetC, .int .i64 151]) (results_blk2 rfl _ _ _ w.heap.size 44 _ _ rfl rfl b9 _ Try.underlying44 rfl HZI.out) rfl (.inl ⟨HF.out, rfl, U9⟩)
  obtain ⟨da, dc, rfl⟩ := (OwnRow.row OG pw).slice
  have HFT := Lib.hid (parse_done HTS.out P34.out HROOT.out hgone)
  rw [HN6.out] at HFT
  have UD : Up w6 w6.drew := (Up.refl w6).drew
  have U8d := U8.trans UD
  have OG6 := Lib.hid ((OwnRow.up OG UD).mono (base' := w.heap.size) (by have := U7.out.size; rw [SZ5.out] at this ⊢; omega))
  have B6 := Lib.hid (B5.out.up U8d)
  have U9 := Lib.hid (U7.out.trans U8d)
  have BR6 := Lib.hid (BR.out.up U8d)
  have CV := toStr w6.drew (.slice ya yn yc) q (HY5.out.up U8d)
  have i0 := U8d.cell m0
  have i1 := U8d.cell m1
  have i2 := U8d.cell m2
  have i3 := U8d.cell m3
  have i4 := U8d.cell m4
  have i5 := U8d.cell m5
  have j0 := U8d.cell l0
  have j1 := U8d.cell l1
  have j2 := U8d.cell l2
  have HBT := Lib.hid (built_setQ a b' c d e' f q ⟨pl, pb, ps⟩ gone da gone.length dc)
  have HIP := Lib.hid (info_pcA ⟨pl, pb, ps⟩)
  unfold pcA at HBT HIP
  clear hgone OG U8 DR HTS B5 U7 m0 m1 m2 m3 m4 m5 l0 l1 l2 HY5 BR hzr UD U8d SZ5
  go_wp2_with fail
  refine wp_region_still_tail 27 (by kernel_rfl) (by kernel_rfl) ?_
  simp only [List.take_succ_cons, List.take_zero, List.drop_succ_cons, List.drop_zero]
  change wpStill _ _ w6.drew (fun a' => wpList _ _ _ _ a' w6.drew) _ _
  generalize w6.drew = w7 at *
  (try simp only [Act.put, List.getElem_toArray, List.getElem_cons_succ, List.getElem_cons_zero, List.setIfInBounds_toArray, List.set_cons_zero, List.set_cons_succ])
  iterate 6 still_step
  refine ws_convert rfl 29 9 (.tmp 67) rfl (.slice ya yn yc) _ rfl CV ?_
  iterate 17 still_step
  refine ws_load_part rfl 41 (.tmp 7) rfl w5.heap.size 0 rfl _ BR6.out.range _ Try.underlying41 rfl HIP.out ?_
  still_step
  refine ws_build9 rfl 44 0 1 2 3 4 5 6 7 8 (.tmp 64) (.tmp 68) (.tmp 72) (.tmp 75) (.tmp 78) (.tmp 81) (.tmp 85) (.tmp 86) (.tmp 87) rfl _ _ _ _ _ _ _ _ _ _ HBT.out rfl rfl rfl rfl rfl rfl rfl rfl rfl ?_
  refine wpStill_nil ?_
  have HSI := Lib.hid (info_setV (setOf [a, b', c, d, e', f] q ⟨pl, pb, ps⟩ gone) (.slice da gone.length dc))
  have HS1 := Lib.hid (setC_one (setOf [a, b', c, d, e', f] q ⟨pl, pb, ps⟩ gone) da gone.length dc)
  have HDE := Lib.hid (show (setOf [a, b', c, d, e', f] q ⟨pl, pb, ps⟩ gone).dead = gone from rfl)
  generalize setOf [a, b', c, d, e', f] q ⟨pl, pb, ps⟩ gone = X at *
  go_wp2_with (first
    | ((with_reducible refine wg_store 44 (.tmp 2) (.tmp 88) ?_); refine wpList_store_blk rfl 44 (.tmp 2) (.tmp 88) rfl w.heap.size (setC X (.slice da gone.length dc)) rfl rfl 44 zSetC B6.out HSI.out rfl HS1.out ?_))
  intro w9 b9 g9
  have U10 := U9.out.below_trans (below_grown g9 (Nat.le_of_lt B6.out.lt) (fun j hj => by cases hj; exact Nat.le_refl _)) (Nat.le_refl _)
  have O9 := Lib.hid (OwnRow.kept OG6.out g9 (.inr (own_nex (by decide) B6.out OG6.out)))
  go_wp2_with fail
  (try simp only [Exit.inBlock, Exit.then])
  exact bodyPost_ret (v := .tuple #[.agg (setC X (.slice da gone.length dc)), .int .i64 0]) (results_blk2 rfl _ _ _ w.heap.size 44 _ _ rfl rfl b9 _ Try.underlying44 rfl HSI.out) rfl (.inr ⟨X, da, _, dc, HFT.out, rfl, by rw [HDE.out]; exact O9.out, U10⟩)

end Go.Proofs.Ythbfhlphclgnaaa

set_option linter.unusedSimpArgs false
set_option linter.unusedVariables false
namespace Go.Proofs.Ythbfhlphclgnaaa
open Go.RowKit Go.Sort

def ReadsPost (o : Option (Nat × List SetD)) (w : World) (e : Ending) (w' : World) : Prop :=
  (o = none ∧ e = .returned (.tuple #[.int .u64 0, .slice none 0 0, .int .i64 151]) ∧ Up w w') ∨
  ∃ n l v, o = some (n, l) ∧ e = .returned (.tuple #[.int .u64 (n : Int), v, .int .i64 0]) ∧ OwnSets w' w.heap.size v l ∧ Up w w'
theorem OwnSets.mono {w : World} {base base' : Nat} {v : Value} {l : List SetD} (h : OwnSets w base v l) (hb : base' ≤ base) : OwnSets w base' v l := by
  obtain ⟨ys, h1, h2, h3⟩ := h
  exact ⟨ys, h1, OwnRow.mono h2 hb, fun y hy => OwnRow.mono (h3 y hy) hb⟩
theorem readS_empty {b : List UInt8} (h : splitB b = some []) : readS b = none := by unfold readS; rw [h]
theorem readS_cons {b hd : List UInt8} {tl : List (List UInt8)} (h : splitB b = some (hd :: tl)) : readS b = if hd.length = 8 then (parseAll tl).bind fun l => if setsO (numVal hd) l = some b then some (numVal hd, l) else none else none := by
  unfold readS; rw [h]
theorem readS_long {b hd : List UInt8} {tl : List (List UInt8)} (h : splitB b = some (hd :: tl)) (hl : 32 < tl.length) : readS b = none := by
  rw [readS_cons h]
  split
  · cases hp : parseAll tl with
    | none => rfl
    | some l =>
      simp only [Option.bind_some]
      rw [if_neg]
      intro hs
      have := (setsO_some hs).2.1
      have := parseAll_length _ _ hp
      omega
  · rfl
theorem readS_head {b hd : List UInt8} {tl : List (List UInt8)} (h : splitB b = some (hd :: tl)) (hl : hd.length ≠ 8) : readS b = none := by rw [readS_cons h, if_neg hl]
theorem readS_parse {b hd : List UInt8} {tl : List (List UInt8)} (h : splitB b = some (hd :: tl)) (hl : parseAll tl = none) : readS b = none := by rw [readS_cons h, hl]; split <;> rfl
theorem readS_write {b hd : List UInt8} {tl : List (List UInt8)} {l : List SetD} (h : splitB b = some (hd :: tl)) (hp : parseAll tl = some l) (hs : setsO (numVal hd) l ≠ some b) : readS b = none := by
  rw [readS_cons h, hp, Option.bind_some, if_neg hs]
  split <;> rfl
theorem readS_done {b hd : List UInt8} {tl : List (List UInt8)} {l : List SetD} (h : splitB b = some (hd :: tl)) (h8 : hd.length = 8) (hp : parseAll tl = some l) (hs : setsO (numVal hd) l = some b) : readS b = some (numVal hd, l) := by
  rw [readS_cons h, hp, Option.bind_some, if_pos hs, if_pos h8]
theorem parseAll_wf : ∀ (ts : List (List UInt8)) (l : List SetD), parseAll ts = some l → ∀ x ∈ l, x.wf
  | [], l, h => by simp [parseAll] at h; subst h; intro x hx; cases hx
  | t :: ts, l, h => by
    rw [parseAll] at h
    cases h1 : parseO t with
    | none => rw [h1] at h; cases h
    | some x =>
      cases h2 : parseAll ts with
      | none => rw [h1, h2] at h; cases h
      | some m =>
        rw [h1, h2] at h
        obtain rfl := Option.some.inj h
        intro y hy
        rcases List.mem_cons.1 hy with rfl | hy
        · exact parseO_wf h1
        · exact parseAll_wf ts m h2 y hy
theorem getNums_8 {b : List UInt8} (h : b.length = 8) : getNums [8] b = [numVal b] := by
  show [numVal (b.take 8)] = [numVal b]
  rw [List.take_of_length_le (by omega)]
theorem okGet_8 {b : List UInt8} : okGet [8] b ↔ b.length = 8 := by
  unfold okGet okWs
  simp [total]

theorem parse_abs (w : World) (v : Value) (b : List UInt8) (hv : IsBytes w v b) :
    Calls Try.prog 23 #[v] w fun e w' => (parseO b = none ∧ ∃ C : Array Value, (Try.prog.info? 44).map (·.size) = some C.size ∧ zSetC.size = C.size ∧ C.all (·.oneCell') = true ∧ e = .returned (.tuple #[.agg C, .int .i64 151]) ∧ Up w w') ∨
      ∃ x da dn dc, parseO b = some x ∧ e = .returned (.tuple #[.agg (setC x (.slice da dn dc)), .int .i64 0]) ∧ OwnPtrs w' w.heap.size (.slice da dn dc) x.dead ∧ Up w w' :=
  (parse_any w v b hv).mono fun e w' h => by
    rcases h with ⟨h1, h2, h3⟩ | h
    · exact .inl ⟨h1, zSetC, info_zset, rfl, zset_one, h2, h3⟩
    · exact .inr h

set_option maxRecDepth 100000 in
set_option maxHeartbeats 8000000 in
theorem readS_any (w : World) (v : Value) (b : List UInt8) (hv : IsBytes w v b) :
    Calls Try.prog 9 #[v] w fun e w' => ReadsPost (readS b) w e w' := by
  by_cases hnone : splitB b = none
  · have hr : readS b = none := by unfold readS; rw [hnone]
    exact (read_none w v b hv hnone).mono fun e w' h => .inl ⟨hr, h⟩
  obtain ⟨ts, hts⟩ := Option.ne_none_iff_exists'.1 hnone
  have HTS := Lib.hid hts
  have SP := Lib.hid (show Calls Try.prog 21 #[v] w (fun e w' => ∃ v2, e = .returned (.tuple #[v2, .int .i64 0]) ∧ OwnTexts w' w.heap.size v2 ts ∧ Up w w') from (split_any w v b hv).mono (by
    rintro e w' (⟨ts', h1, v2, h2, h3, h4⟩ | ⟨h, _⟩)
    · rw [hts] at h1
      obtain rfl := Option.some.inj h1
      exact ⟨v2, h2, h3, h4⟩
    · exact absurd h hnone))
  have HV := Lib.hid hv
  obtain ⟨va, vc, rfl⟩ := hv.slice
  clear hnone hts hv
  go_enter Try.func9, Try.ntmps9
  go_wp2_with fail
  refine SP.out.mono ?_
  rintro e w2 ⟨v2, rfl, OT, U2⟩
  have U2 := Lib.hid U2
  obtain ⟨vs, hvl, hvo, hve⟩ := OT
  obtain ⟨ta, tc, rfl⟩ := (Own.ones hvo).slice
  have htl := (Own.ones hvo).length_le
  clear SP
  match ts, HTS, hvl, hve with
  | [], HTS, hvl, hve =>
    have HF := Lib.hid (readS_empty HTS.out)
    obtain rfl := List.eq_nil_of_length_eq_zero hvl
    clear hve hvo hvl HTS HV
    simp only [List.length_nil]
    go_wp2_with fail
    go_ret3
    exact .inl ⟨HF.out, rfl, U2.out⟩
  | hd :: tl, HTS, hvl, hve =>
  match vs, hvo, hvl, hve, htl with
  | x :: xs, hvo, hvl, hve, htl =>
  have hxl : xs.length = tl.length := by simpa using hvl
  obtain ⟨m, hm⟩ : ∃ m, m = tl.length := ⟨_, rfl⟩
  have hlen : (x :: xs).length = m + 1 := by rw [List.length_cons, hxl, hm]
  by_cases h33 : 32 < m
  · have HF := Lib.hid (readS_long HTS.out (by rw [← hm]; exact h33))
    rw [hlen]
    have b3 : ((33 : Int) < ((m + 1 : Nat) : Int)) = True := by simp; omega
    have b4 : (((m + 1 : Nat) : Int) < 1) = False := by simp; omega
    generalize m + 1 = tn at *
    clear hve hvo hvl HTS HV hlen htl
    go_wp2_with fail
    go_ret3
    exact .inl ⟨HF.out, rfl, U2.out⟩
  have b3 : ((33 : Int) < ((m + 1 : Nat) : Int)) = False := by simp; omega
  have b4 : (((m + 1 : Nat) : Int) < 1) = False := by simp; omega
  have hm32 : m ≤ 32 := by omega
  have hx : IsBytes w2 (slCell x) hd := (hve 0 (by simp) (by simp)).ones
  have hxs : ∀ k (h1 : k < xs.length) (h2 : k < tl.length), IsBytes w2 (slCell xs[k]) tl[k] := fun k h1 h2 => by
    have := (hve (k + 1) (by simp; omega) (by simp; omega)).ones
    simpa using this
  have HXS := Lib.hid hxs
  obtain ⟨g, cap, hgv, hge, hgl, hcells, _, _⟩ := Own.row hvo (by simp)
  rw [hlen] at hgv hvo ⊢
  simp only [Value.slice.injEq] at hgv
  obtain ⟨rfl, _, rfl⟩ := hgv
  have c0 : w2.cell? ⟨g, 0, none⟩ = some (slCell x) := hcells 0 (by simp)
  have hck : ∀ k (h1 : k < xs.length), w2.cell? ⟨g, 1 + k, none⟩ = some (slCell xs[k]) := fun k h1 => by
    have := hcells (k + 1) (by simp; omega)
    rw [Nat.add_comm 1 k]
    simpa using this
  have HCK := Lib.hid hck
  have hcap : m + 1 ≤ tc := by
    rcases hvo.2 with ⟨h, _⟩ | ⟨g', cap', cur', h, _, _, hn, _⟩
    · cases h
    · simp only [Value.slice.injEq] at h
      omega
  obtain ⟨xa, xn, xc⟩ := x
  unfold slCell at c0 hx
  simp only at c0 hx
  obtain rfl : xn = hd.length := by obtain ⟨_, _, h⟩ := hx.slice; simp at h; exact h.2.1
  have HX := Lib.hid hx
  have UA := up_alloc w2 (.cells #[.int .i64 8] 3)
  have U3 := Lib.hid (U2.out.trans UA)
  have i1 := Lib.hid (show IsOnes intCell (w2.alloc (.cells #[.int .i64 8] 3)) (.slice (some ⟨w2.heap.size, 0, none⟩) 1 1) [8] from IsOnes.litAt (f := intCell) w2 w2.heap.size rfl #[.int .i64 8] 3 (0, 0) [8] 1 rfl (by unfold maxLen; omega) rfl)
  have GT := Lib.hid (get_any _ _ [8] i1.out (by simp) _ hd (HX.out.up UA))
  have c0' := UA.cell c0
  have PF : ∀ W : World, (Instr.slice 50 (.slice (some ⟨g, 0, none⟩) (m + 1) tc) (some (.int .i64 1)) none none).run Try.prog W = .ok (partOf 1 (some ⟨g, 0, none⟩) 1 (m + 1) tc) W := fun W => run_part_from (P := Try.prog) 50 1 texts_elem texts_size (some ⟨g, 0, none⟩) (m + 1) tc 1 (by omega) W
  obtain ⟨pa, hpa, hpe⟩ : ∃ pa, partOf 1 (some ⟨g, 0, none⟩) 1 (m + 1) tc = .slice pa m (tc - 1) ∧ (0 < m → pa = some ⟨g, 1, none⟩) := by
    refine ⟨_, rfl, fun h => ?_⟩
    rw [if_neg (by omega)]
    rfl
  have HPE := Lib.hid hpe
  rw [hpa] at PF
  have MK : ∀ W : World, (Instr.makeSlice 23 (.int .i64 0) (.int .i64 (m : Int))).run Try.prog W = .ok (.slice (some ⟨W.heap.size, 0, none⟩) 0 m) (W.alloc (.cells (madeCells zSetC (m * 11)) 44)) := fun W => run_makeR0 (P := Try.prog) 23 44 (.agg zSetC) 11 112 Try.underlying23 info_set3 m (by omega) (by omega) W
  have wm : ((m + 1 : Nat) : Int) - 1 = (m : Int) := by omega
  have wm2 : IntKind.i64.wrap (m : Int) = (m : Int) := wrap_i64_nat m (by omega)
  have HM := Lib.hid hm
  have HXL := Lib.hid (show xs.length = m by rw [hxl, hm])
  obtain ⟨pc, hpc⟩ : ∃ n, n = tc - 1 := ⟨_, rfl⟩
  rw [← hpc] at PF
  obtain ⟨tn, htn⟩ : ∃ n, n = m + 1 := ⟨_, rfl⟩
  rw [← htn] at PF b3 b4 wm ⊢
  have HTN := Lib.hid htn
  have h1n : 1 ≤ tn := by omega
  by_cases h8 : hd.length = 8
  rotate_left
  · have HF := Lib.hid (readS_head HTS.out h8)
    have NG : ¬ okGet [8] hd := fun h => h8 (okGet_8.1 h)
    generalize hd.length = hl at *
    clear hve hvo hcells hx hxs hck htl hvl hlen hxl hm hpa hpe hpc htn hcap UA i1
    go_wp2_with fail
    refine GT.out.mono ?_
    rintro e w4 (⟨hok, _⟩ | ⟨_, rfl, U4⟩)
    · exact absurd hok NG
    go_wp2_with fail
    go_ret3
    exact .inl ⟨HF.out, rfl, U3.out.trans U4⟩
  have H8 := Lib.hid h8
  rw [h8] at c0 c0' hx GT
  have hx8 := hx
  have OG : okGet [8] hd := okGet_8.2 h8
  clear hve hvo hcells hx hxs hck htl hvl hlen hxl hm hpa hpe hpc htn hcap UA i1 h8 hx8
  go_wp2_with fail
  refine GT.out.mono ?_
  rintro e w4 (⟨_, v7, rfl, O7, U4⟩ | ⟨hbad, _⟩)
  rotate_left
  · exact absurd OG hbad
  rw [getNums_8 H8.out] at O7
  obtain ⟨g7, cap7, rfl, _, _, hc7, _, _⟩ := Own.row O7 (by simp)
  have n0 : w4.cell? ⟨g7, 0, none⟩ = some (.int .u64 (numVal hd : Int)) := hc7 0 (by simp)
  have HNL := Lib.hid (numVal_lt8 hd (by rw [H8.out]; omega))
  obtain ⟨nv, hnv⟩ : ∃ n, n = numVal hd := ⟨_, rfl⟩
  rw [← hnv] at n0
  have HNV := Lib.hid hnv
  have U5 := Lib.hid (U3.out.trans U4)
  have U24 := Lib.hid ((up_alloc w2 (.cells #[.int .i64 8] 3)).trans U4)
  have UM := Lib.hid (up_alloc w4 (.cells (madeCells zSetC (m * 11)) 44))
  have n0' := UM.out.cell n0
  have O0 := Lib.hid (show OwnSets (w4.alloc (.cells (madeCells zSetC (m * 11)) 44)) w4.heap.size (.slice (some ⟨w4.heap.size, 0, none⟩) 0 m) [] from ⟨[], rfl, OwnRow.room setcells 11 44 w4 (.agg zSetC) w4.heap.size m (Nat.le_refl _) (by omega), fun _ h => by cases h⟩)
  clear hc7 O7 GT U4 c0 c0' hnv OG U3
  simp only [List.length_cons, List.length_nil, Nat.zero_add]
  go_wp2_with fail
  go_loopw [8, 48] (fun lv i wr => ∃ k : Nat, k ≤ m ∧ i = .int .i64 k ∧ ∃ out, parseAll (tl.take k) = some out ∧ OwnSets wr w4.heap.size lv out ∧ Up w4 wr) (fun _ i _ => m - (intOf i).toNat)
  case atStart => exact ⟨0, Nat.zero_le _, rfl, [], rfl, O0.out, UM.out⟩
  case round =>
    obtain ⟨k, hk, rfl, out, hpo, os, ur⟩ := hrel
    have UR := Lib.hid ur
    have OS := Lib.hid os
    have HPO := Lib.hid hpo
    clear ur os O0 UM hpo MK PF b3 b4 wm wm2 n0'
    by_cases hlt : k < m
    · have bk : ((k : Int) < (m : Int)) = True := by simp; omega
      obtain rfl := HPE.out (by omega)
      have hkx : k < xs.length := by rw [HXL.out]; exact hlt
      have hkt : k < tl.length := by rw [← HM.out]; exact hlt
      have ck := UR.out.cell (U24.out.cell (HCK.out k hkx))
      have hb := (HXS.out k hkx hkt).up (U24.out.trans UR.out)
      have TK := Lib.hid (show tl.take (k + 1) = tl.take k ++ [tl[k]] from List.take_succ_eq_append_getElem hkt)
      have HMEM := Lib.hid (show tl[k] ∈ tl from List.getElem_mem hkt)
      generalize tl[k] = t at *
      generalize xs[k] = x at *
      obtain ⟨ya, yn, yc⟩ := x
      unfold slCell at ck hb
      simp only at ck hb
      have PS := Lib.hid (parse_abs wr _ t hb)
      have hlo := Lib.hid (parseAll_length _ _ HPO.out)
      clear hb hkx hkt
      go_wp2_with fail
      refine PS.out.mono ?_
      rintro e w5 (⟨hbad, C, hi, hz, h1, rfl, U6⟩ | ⟨x, da, dn, dc, hsome, rfl, OD, U6⟩)
      · have HF := Lib.hid (readS_parse HTS.out (parseAll_none _ _ HMEM.out hbad))
        have HI := Lib.hid hi
        have H1 := Lib.hid h1
        have HZ := Lib.hid hz
        have UZ := Lib.hid (((U5.out.trans UR.out).trans U6).trans (up_alloc w5 (.cells C 44)))
        clear hbad U6 PS hi h1 hz
        go_wp2_with (first
          | ((with_reducible refine wg_alloc 44 ?_); refine wpList_alloc_blk rfl 44 rfl zSetC zero_set ?_)
          | ((with_reducible refine wg_store 44 (.tmp 11) (.tmp 55) ?_); refine ws_new w5 rfl 44 (.tmp 11) (.tmp 55) rfl C 44 zSetC rfl rfl rfl HI.out HZ.out H1.out ?_))
        go_ret3
        exact .inl ⟨HF.out, rfl, UZ.out⟩
      · have HX1 := Lib.hid (show parseAll (tl.take (k + 1)) = some (out ++ [x]) by rw [TK.out, parseAll_snoc, HPO.out, hsome]; rfl)
        have HSI := Lib.hid (info_setV x (.slice da dn dc))
        have H1 := Lib.hid (setC_one x da dn dc)
        have HZ := Lib.hid (show zSetC.size = (setC x (.slice da dn dc)).size from rfl)
        have UX := up_alloc w5 (.cells (setC x (.slice da dn dc)) 44)
        have UXX := up_alloc (w5.alloc (.cells (setC x (.slice da dn dc)) 44)) (.cells (setC x (.slice da dn dc)) 44)
        have BX := Lib.hid (Blk.new w5 44 (setC x (.slice da dn dc)))
        obtain ⟨ys, h1, h2, h3⟩ := OS.out.up ((U6.trans UX).trans UXX)
        have YS := Lib.hid h1
        have Y2 := Lib.hid h2
        have Y3 := Lib.hid h3
        have OD2 := Lib.hid ((OwnRow.up (OwnRow.up OD UX) UXX).mono (base' := w4.heap.size) UR.out.size)
        have U7 := Lib.hid (UR.out.trans ((U6.trans UX).trans UXX))
        have hb3 := Lib.hid U7.out.size
        have hyl : ys.length ≤ 1000 := by
          have e1 := congrArg List.length h1
          have e2 := hlo.out
          rw [List.length_map] at e1
          rw [List.length_take] at e2
          omega
        have RW := Lib.hid (show IsRow setcells ((w5.alloc (.cells (setC x (.slice da dn dc)) 44)).alloc (.cells (setC x (.slice da dn dc)) 44)) (.slice (some ⟨(w5.alloc (.cells (setC x (.slice da dn dc)) 44)).heap.size, 0, none⟩) 1 1) [(⟨x, da, dn, dc⟩ : SetV)] from
          IsRow.litAt _ _ rfl (setC x (.slice da dn dc)) 44 (0, 0) [_] 1 rfl (by unfold maxLen; omega) (by simp [setcells, SetV.v]))
        have hb1 := Lib.hid (show (ys.length + [(⟨x, da, dn, dc⟩ : SetV)].length) * 112 ≤ 140737488355328 by simp; omega)
        have hb2 := Lib.hid (show ys.length + [(⟨x, da, dn, dc⟩ : SetV)].length ≤ 9223372036854775807 by simp; omega)
        have HLV := Lib.hid (show (ys.map (·.d)).length = ys.length from List.length_map _)
        clear h1 h2 h3 UX UXX hyl hsome U6 OD PS OS HTS
        go_wp2_with (first
          | ((with_reducible refine wg_alloc 44 ?_); refine wpList_alloc_blk rfl 44 rfl zSetC zero_set ?_)
          | ((with_reducible refine wg_store 44 (.tmp 11) (.tmp 55) ?_); refine ws_new w5 rfl 44 (.tmp 11) (.tmp 55) rfl (setC x (.slice da dn dc)) 44 zSetC rfl rfl rfl HSI.out HZ.out H1.out ?_)
          | ((with_reducible refine wg_load 44 (.tmp 11) ?_); refine wpList_load_blkG rfl 44 (.tmp 11) rfl w5.heap.size rfl 44 _ BX.out _ Try.underlying44 rfl HSI.out ?_)
          | ((with_reducible refine wg_slice 23 1 _ ?_); refine wpList_buildSlice1X rfl 23 44 (.tmp 61) rfl _ 11 112 (setC x (.slice da dn dc)) rfl Try.underlying23 info_set3 (by omega) (by omega) rfl ?_)
          | (at_builtin; refine wpList_append_row setw rfl (.tmp 60) (.tmp 62) 23 rfl w4.heap.size 44 _ 112 Try.underlying23 info_set3 rfl _ ys rfl Y2.out _ [(⟨x, da, dn, dc⟩ : SetV)] rfl RW.out hb1.out hb2.out hb3.out ?_))
        intro v6 w6 hown6 hg6 hbl6
        have OS6 := Lib.hid (show OwnSets w6 w4.heap.size v6 (out ++ [x]) from by
          refine ⟨_, ?_, hown6, fun y hy => ?_⟩
          · rw [List.map_append, YS.out]; rfl
          · rcases List.mem_append.1 hy with hy | hy
            · exact OwnRow.kept (Y3.out y hy) hg6 (ownrow_apart (by decide) (Y3.out y hy) Y2.out)
            · simp at hy
              subst hy
              exact OwnRow.kept OD2.out hg6 (ownrow_apart (by decide) OD2.out Y2.out))
        have U8 := Lib.hid (U7.out.below_trans hbl6 (Nat.le_refl _))
        clear hown6 hg6 hbl6
        go_wp2_with fail
        refine ⟨⟨k + 1, hlt, by simp, out ++ [x], HX1.out, OS6.out, U8.out⟩, ?_⟩
        simp only [intOf]
        omega
    · obtain rfl : k = m := by omega
      have bk : ((k : Int) < (k : Int)) = False := by simp
      have hpo := HPO.out
      rw [HM.out, List.take_length] at hpo
      have HPA := Lib.hid hpo
      have BS := Lib.hid (setsBytes_any wr nv (by rw [HNV.out]; exact HNL.out) _ out OS.out.sets (parseAll_wf _ _ hpo))
      have n1 := UR.out.cell n0
      clear hpo n0
      go_wp2_with fail
      refine BS.out.mono ?_
      rintro e w6 (⟨hno, rfl, U6⟩ | ⟨mb, v13, hsome, rfl, O13, U6⟩)
      · have HF := Lib.hid (readS_write HTS.out HPA.out (by rw [← HNV.out, hno]; simp))
        have U7 := Lib.hid ((U5.out.trans UR.out).trans U6)
        clear hno U6 BS
        go_wp2_with fail
        go_ret3
        exact .inl ⟨HF.out, rfl, U7.out⟩
      have U7 := Lib.hid ((U5.out.trans UR.out).trans U6)
      have n2 := U6.cell n1
      have OS6 := Lib.hid (OwnSets.mono (OS.out.up U6) (base' := w.heap.size) U5.out.size)
      have HSM := Lib.hid hsome
      have BQ := Lib.hid (bequal_any w6 _ _ mb b O13.ones (HV.out.up U7.out))
      obtain ⟨qa, qc, rfl⟩ := O13.ones.slice
      clear hsome U6 BS O13
      by_cases hmb : mb = b
      · rw [decide_eq_true hmb] at BQ
        subst hmb
        have HF := Lib.hid (readS_done HTS.out H8.out HPA.out (by rw [← HNV.out]; exact HSM.out))
        rw [← HNV.out] at HF
        go_wp2_with fail
        refine BQ.out.mono ?_
        rintro e w8 ⟨rfl, rfl⟩
        go_wp2_with fail
        go_ret3
        exact .inr ⟨nv, out, _, HF.out, rfl, OS6.out, U7.out⟩
      · rw [decide_eq_false hmb] at BQ
        have HF := Lib.hid (readS_write HTS.out HPA.out (by rw [← HNV.out, HSM.out]; intro h; exact hmb (Option.some.inj h)))
        go_wp2_with fail
        refine BQ.out.mono ?_
        rintro e w8 ⟨rfl, rfl⟩
        go_wp2_with fail
        go_ret3
        exact .inl ⟨HF.out, rfl, U7.out⟩

end Go.Proofs.Ythbfhlphclgnaaa
