/- The feed, lane by lane: a feed in memory; made, lane, take, Push. -/
import Derived.Test.YtlomjckmclefeaaChecked
import Derived.Conc.LoneSelect
import Derived.Conc.LoneSelectN
import Derived.KernelRfl
import Derived.WalkKit
import Derived.Laws.Rows
import Derived.Deep.RegionHeld3
namespace Go.Proofs.Ytlomjckmclefeaa
set_option linter.unusedVariables false
set_option linter.unusedSimpArgs false
open Go.Conc Go.RowKit

/-- A call by its contract, inside a walk of a lone goroutine. -/
theorem loneTo_call {P : Program} {Q : Goroutine → World → Prop} {b : Frame} {a : Act} {k : List Item} {cs : List Frame} {w : World} {ops : Array Oper} {i : Nat} {rest : List Nat} {o : Oper} {f : FuncId} {fn : Func} {c : Code} {args : Array Operand} {ats : Array TypeId}
    {R : Ending → World → Prop} (vs : Array Value) (ho : ops[i]? = some o) (hw : Region.wanted o (yielded ops a.tmps) = true) (hk : b.kind ≠ .early) (hop : o.op = .call { callee := .value (.func f), args, argTypes := ats })
    (hf : P.funcs[f]? = some fn) (hname : (fn.name == "runtime.NumGoroutine") = false) (hb : fn.body = some c) (hvs : args.map a.eval = vs) (hc : Calls P f vs w R)
    (h : ∀ e w', R e w' → ∃ v, e = .returned v ∧ LoneTo P Q (G (b.at (a.put o.dst v) (.inRegion ops rest :: k)) cs) w') :
    LoneTo P Q (G (b.at a (.inRegion ops (i :: rest) :: k)) cs) w := by
  have hb' : fn.body.isNone = false := by rw [hb]; rfl
  subst hvs
  refine LoneTo.step (step_solo_go rfl (stepG_enter ho hw hk (run_call_body hop hf hname hb'))) ?_
  obtain ⟨e, w', fr, hr, hcomes, hfn, hl⟩ := hc (b.at a (.inRegion ops (i :: rest) :: k) :: cs)
  obtain ⟨v, rfl, g', w2, hs, hq⟩ := h e w' hr
  have h1 := step_leave_returned (c := b.at a (.inRegion ops (i :: rest) :: k)) (cs := cs) hl
  have h2 : ((ops[i]?).bind (·.dst)) = o.dst := by rw [ho]; rfl
  rw [Frame.finish_at, h2] at h1
  exact ⟨g', w2, Steps.trans hcomes (Steps.head h1 hs), hq⟩

/-- Outside the blocks of l the world is as it was. -/
structure Upd (l : List Nat) (w w' : World) : Prop where
  os : w'.os = w.os
  tape : w'.tape = w.tape
  output : w'.output = w.output
  size : w.heap.size ≤ w'.heap.size
  block : ∀ k, k < w.heap.size → k ∉ l → w'.heap[k]? = w.heap[k]?
theorem Upd.refl (l : List Nat) (w : World) : Upd l w w := ⟨rfl, rfl, rfl, Nat.le_refl _, fun _ _ _ => rfl⟩
theorem Upd.trans {l : List Nat} {a b c : World} (h : Upd l a b) (k : Upd l b c) : Upd l a c :=
  ⟨k.os.trans h.os, k.tape.trans h.tape, k.output.trans h.output, Nat.le_trans h.size k.size, fun i hi hl => (k.block i (Nat.lt_of_lt_of_le hi h.size) hl).trans (h.block i hi hl)⟩
theorem Upd.more {l l' : List Nat} {a b : World} (h : Upd l a b) (hl : ∀ k, k ∈ l → k ∈ l') : Upd l' a b :=
  ⟨h.os, h.tape, h.output, h.size, fun k hk hn => h.block k hk (fun c => hn (hl k c))⟩
theorem Upd.below {l : List Nat} {B : Nat} {a b c : World} (h : Below B a b) (k : Upd l b c) (hB : B ≤ b.heap.size) (hl : ∀ i, i ∈ l → B ≤ i) : Below B a c :=
  ⟨k.os.trans h.os, k.tape.trans h.tape, k.output.trans h.output, Nat.le_trans h.size k.size, fun i hi => (k.block i (by omega) (fun c => by have := hl i c; omega)).trans (h.block i hi)⟩
theorem Upd.of_below {l : List Nat} {w w' : World} (h : Below w.heap.size w w') : Upd l w w' := ⟨h.os, h.tape, h.output, h.size, fun k hk _ => h.block k hk⟩
theorem upd_setChan (w : World) (c cap : Nat) (buf : Array Value) (cl : Bool) (s r : Nat) (tm : Bool) : Upd [c] w (w.setChan c cap buf cl s r tm) :=
  ⟨rfl, rfl, rfl, by simp [World.setChan], fun k hk hl => by
    have hne : c ≠ k := fun e => hl (by simp [e])
    simp [World.setChan, Array.getElem?_setIfInBounds_ne hne]⟩
theorem heap_setChan_other (w : World) (c c' cap : Nat) (buf : Array Value) (closed : Bool) (s r : Nat) (tm : Bool) (h : c ≠ c') : (w.setChan c cap buf closed s r tm).heap[c']? = w.heap[c']? := by
  simp [World.setChan, Array.getElem?_setIfInBounds_ne h]
theorem lt_of_heap {w : World} {k : Nat} {o : Obj} (h : w.heap[k]? = some o) : k < w.heap.size := (Array.getElem?_eq_some_iff.1 h).1

def vals (L : List Int) : Array Value := (L.map (Value.int .i64)).toArray
theorem vals_size (L : List Int) : (vals L).size = L.length := by simp [vals]
theorem vals_head (x : Int) (L : List Int) : (vals (x :: L)).getD 0 undef = .int .i64 x := by simp [vals]
theorem vals_tail (x : Int) (L : List Int) : (vals (x :: L)).extract 1 (vals (x :: L)).size = vals L := by
  apply Array.ext'
  simp only [vals, List.map_cons, List.size_toArray, List.length_cons, List.extract_toArray, List.extract_eq_take_drop, List.drop_succ_cons, List.drop_zero, Nat.add_sub_cancel]
  exact List.take_of_length_le (by simp)
theorem vals_push (x : Int) (L : List Int) : (vals L).push (.int .i64 x) = vals (L ++ [x]) := by
  apply Array.ext'
  simp [vals]

/-- A feed in memory: its struct, its two channels. -/
structure FeedAt (w : World) (b cu cn n : Nat) (U N : List Int) (cl : Bool) : Prop where
  box : w.heap[b]? = some (.cells #[.chan (some cu), .chan (some cn), .bool cl] 49 (0, 0))
  urg : ∃ s r, w.heap[cu]? = some (.chan n (vals U) cl s r false)
  usu : ∃ s r, w.heap[cn]? = some (.chan n (vals N) cl s r false)
  ne : cu ≠ cn
  lu : U.length ≤ n
  ln : N.length ≤ n
  n256 : n ≤ 256
theorem FeedAt.b_ne_u {w : World} {b cu cn n : Nat} {U N : List Int} {cl : Bool} (h : FeedAt w b cu cn n U N cl) : b ≠ cu := by
  rintro rfl
  obtain ⟨s, r, h2⟩ := h.urg
  rw [h.box] at h2; cases h2
theorem FeedAt.b_ne_n {w : World} {b cu cn n : Nat} {U N : List Int} {cl : Bool} (h : FeedAt w b cu cn n U N cl) : b ≠ cn := by
  rintro rfl
  obtain ⟨s, r, h2⟩ := h.usu
  rw [h.box] at h2; cases h2
theorem FeedAt.lt {w : World} {b cu cn n : Nat} {U N : List Int} {cl : Bool} (h : FeedAt w b cu cn n U N cl) : b < w.heap.size ∧ cu < w.heap.size ∧ cn < w.heap.size := by
  obtain ⟨s, r, h2⟩ := h.urg
  obtain ⟨s', r', h3⟩ := h.usu
  exact ⟨lt_of_heap h.box, lt_of_heap h2, lt_of_heap h3⟩
/-- A feed stands where others are touched. -/
theorem FeedAt.upd {w w' : World} {l : List Nat} {b cu cn n : Nat} {U N : List Int} {cl : Bool} (h : FeedAt w b cu cn n U N cl) (k : Upd l w w') (hb : b ∉ l) (hu : cu ∉ l) (hn : cn ∉ l) : FeedAt w' b cu cn n U N cl := by
  have hlt := h.lt
  refine ⟨(k.block b hlt.1 hb).trans h.box, ?_, ?_, h.ne, h.lu, h.ln, h.n256⟩
  · obtain ⟨s, r, h2⟩ := h.urg
    exact ⟨s, r, (k.block cu hlt.2.1 hu).trans h2⟩
  · obtain ⟨s, r, h2⟩ := h.usu
    exact ⟨s, r, (k.block cn hlt.2.2 hn).trans h2⟩
theorem FeedAt.cells {w : World} {b cu cn n : Nat} {U N : List Int} {cl : Bool} (h : FeedAt w b cu cn n U N cl) :
    w.cell? ⟨b, 0, none⟩ = some (.chan (some cu)) ∧ w.cell? ⟨b, 1, none⟩ = some (.chan (some cn)) ∧ w.cell? ⟨b, 2, none⟩ = some (.bool cl) := by
  have hb := h.box
  simp [World.cell?, hb]
theorem FeedAt.drew {w : World} {b cu cn n : Nat} {U N : List Int} {cl : Bool} (h : FeedAt w b cu cn n U N cl) : FeedAt w.drew b cu cn n U N cl := ⟨h.box, h.urg, h.usu, h.ne, h.lu, h.ln, h.n256⟩
theorem FeedAt.setU {w : World} {b cu cn n : Nat} {U N U' : List Int} {cl : Bool} (h : FeedAt w b cu cn n U N cl) (s r : Nat) (hl : U'.length ≤ n) : FeedAt (w.setChan cu n (vals U') cl s r false) b cu cn n U' N cl := by
  refine ⟨(heap_setChan_other _ _ _ _ _ _ _ _ _ h.b_ne_u.symm).trans h.box, ⟨s, r, heap_setChan _ _ _ _ _ _ _ _ h.lt.2.1⟩, ?_, h.ne, hl, h.ln, h.n256⟩
  obtain ⟨s', r', h2⟩ := h.usu
  exact ⟨s', r', (heap_setChan_other _ _ _ _ _ _ _ _ _ h.ne).trans h2⟩
theorem FeedAt.setN {w : World} {b cu cn n : Nat} {U N N' : List Int} {cl : Bool} (h : FeedAt w b cu cn n U N cl) (s r : Nat) (hl : N'.length ≤ n) : FeedAt (w.setChan cn n (vals N') cl s r false) b cu cn n U N' cl := by
  refine ⟨(heap_setChan_other _ _ _ _ _ _ _ _ _ h.b_ne_n.symm).trans h.box, ?_, ⟨s, r, heap_setChan _ _ _ _ _ _ _ _ h.lt.2.2⟩, h.ne, h.lu, hl, h.n256⟩
  obtain ⟨s', r', h2⟩ := h.urg
  exact ⟨s', r', (heap_setChan_other _ _ _ _ _ _ _ _ _ h.ne.symm).trans h2⟩

/-! made, lane. -/
theorem run_equalIn_chan {P : Program} {w : World} {dir : ChanDir} {e : TypeId} (d : Nat) (t : TypeId) (a b : Option Nat) (h : P.underlying t = some (.chan dir e)) : (Op.equalIn (d + 1) t (.chan a) (.chan b)).run P w = .ok (a == b) w := by
  simp [Op.equalIn, run_underlying h]
theorem run_equal_chan {P : Program} {w : World} {dir : ChanDir} {e : TypeId} (t : TypeId) (a b : Option Nat) (h : P.underlying t = some (.chan dir e)) : (Op.equal t (.chan a) (.chan b)).run P w = .ok (a == b) w :=
  run_equalIn_chan 9999 t a b h
theorem run_neq_chan {P : Program} {w : World} {dir : ChanDir} {e : TypeId} (t : TypeId) (a b : Option Nat) (h : P.underlying t = some (.chan dir e)) : (binOp .neq t (.chan a) (.chan b)).run P w = .ok (.bool (!(a == b))) w := by
  simp [binOp, run_equal_chan t a b h]
set_option maxRecDepth 100000 in
theorem made_any (b cu cn n : Nat) (U N : List Int) (cl : Bool) (w : World) (h : FeedAt w b cu cn n U N cl) :
    Calls Try.prog 16 #[.pointer (some ⟨b, 0, none⟩)] w fun e w' => e = .returned (.bool true) ∧ w = w' := by
  obtain ⟨h0, h1, h2⟩ := h.cells
  clear h
  have hne := fun a b w => run_neq_chan (P := Try.prog) (w := w) 47 a b Try.underlying47
  go_enter Try.func16, Try.ntmps16
  go_wp2_with fail
  go_ret
  exact ⟨rfl, rfl⟩
set_option maxRecDepth 100000 in
theorem made_nil (w : World) : Calls Try.prog 16 #[.pointer none] w fun e w' => e = .returned (.bool false) ∧ w = w' := by
  go_enter Try.func16, Try.ntmps16
  go_wp2_with fail
  go_ret
  exact ⟨rfl, rfl⟩
set_option maxRecDepth 100000 in
theorem made_zero (b : Nat) (w : World) (h : w.cell? ⟨b, 0, none⟩ = some (.chan none)) : Calls Try.prog 16 #[.pointer (some ⟨b, 0, none⟩)] w fun e w' => e = .returned (.bool false) ∧ w = w' := by
  have hne := fun a b w => run_neq_chan (P := Try.prog) (w := w) 47 a b Try.underlying47
  go_enter Try.func16, Try.ntmps16
  go_wp2_with fail
  go_ret
  exact ⟨rfl, rfl⟩
set_option maxRecDepth 100000 in
theorem lane_u (b cu cn n : Nat) (U N : List Int) (cl : Bool) (w : World) (h : FeedAt w b cu cn n U N cl) :
    Calls Try.prog 17 #[.pointer (some ⟨b, 0, none⟩), .bool true] w fun e w' => e = .returned (.chan (some cu)) ∧ w = w' := by
  obtain ⟨h0, h1, h2⟩ := h.cells
  clear h
  go_enter Try.func17, Try.ntmps17
  go_wp2_with fail
  go_ret
  exact ⟨rfl, rfl⟩
set_option maxRecDepth 100000 in
theorem lane_n (b cu cn n : Nat) (U N : List Int) (cl : Bool) (w : World) (h : FeedAt w b cu cn n U N cl) :
    Calls Try.prog 17 #[.pointer (some ⟨b, 0, none⟩), .bool false] w fun e w' => e = .returned (.chan (some cn)) ∧ w = w' := by
  obtain ⟨h0, h1, h2⟩ := h.cells
  clear h
  go_enter Try.func17, Try.ntmps17
  go_wp2_with fail
  go_ret
  exact ⟨rfl, rfl⟩

/-! take. -/
set_option maxRecDepth 100000 in
theorem take_some (c n : Nat) (x : Int) (L : List Int) (cl : Bool) (s r : Nat) (w : World) (hc : w.heap[c]? = some (.chan n (vals (x :: L)) cl s r false)) :
    Calls Try.prog 18 #[.chan (some c)] w fun e w' => e = .returned (.tuple #[.int .i64 x, .bool true]) ∧ w' = w.setChan c n (vals L) cl s (r + 1) false := by
  refine calls_of_loneTo fun cs => ?_
  have e : Frame.enter Try.prog 18 #[.chan (some c)] .normal = (base 18).at ⟨#[.chan (some c), undef, undef, undef, undef, undef, undef, undef, undef, undef, undef, undef, undef, undef, undef, undef], []⟩ [.code (Try.f18.body.getD .skip)] := by
    simp [Frame.enter, Frame.at, Try.func18, base, Try.f18]
  rw [e]
  refine LoneTo.goes (n := 40) ?_
  simp only [Try.f18, Option.getD_some]
  s_c stepG_seq
  s_reg
  s_op
  s_op
  s_c stepG_region_end
  s_c stepG_seq
  s_reg
  s_op
  s_c stepG_region_end
  s_c stepG_seq
  s_reg
  s_stop
  refine LoneTo.step (step_lone_select_recv_buf (c := c) (z := .int .i64 0) (cap := n) (buf := vals (x :: L)) (closed := cl) (s := s) (r := r) (tm := false)
    (stepG_comm (cases := #[rcase c (.int .i64 0)]) (blocking := false) (shape := .select) (w' := w) rfl rfl (by decide) (by simp [go_sem, execOp, rcase, Act.eval])) hc (by simp [vals])) ?_
  rw [Frame.finish_at, vals_head, vals_tail]
  walk_nrm
  refine LoneTo.goes (n := 40) ?_
  s_op
  s_op
  s_c stepG_region_end
  s_c stepG_block
  s_cond true
  s_c stepG_seq
  s_reg
  s_op
  s_op
  s_op
  s_op
  s_c stepG_region_end
  s_c stepG_seq
  s_reg
  s_op
  s_op
  s_op
  s_op
  s_c stepG_region_end
  s_c stepG_ret'
  s_stop
  exact LoneTo.done ⟨.returned (.tuple #[.int .i64 x, .bool true]), _, rfl, ⟨rfl, rfl⟩, rfl, rfl, rfl, rfl, _, Try.func18, by simp [results, Try.f18, Frame.at]⟩
set_option maxRecDepth 100000 in
theorem take_shut (c n : Nat) (s r : Nat) (w : World) (hc : w.heap[c]? = some (.chan n (vals []) true s r false)) :
    Calls Try.prog 18 #[.chan (some c)] w fun e w' => e = .returned (.tuple #[.int .i64 0, .bool false]) ∧ w = w' := by
  refine calls_of_loneTo fun cs => ?_
  have e : Frame.enter Try.prog 18 #[.chan (some c)] .normal = (base 18).at ⟨#[.chan (some c), undef, undef, undef, undef, undef, undef, undef, undef, undef, undef, undef, undef, undef, undef, undef], []⟩ [.code (Try.f18.body.getD .skip)] := by
    simp [Frame.enter, Frame.at, Try.func18, base, Try.f18]
  rw [e]
  refine LoneTo.goes (n := 40) ?_
  simp only [Try.f18, Option.getD_some]
  s_c stepG_seq
  s_reg
  s_op
  s_op
  s_c stepG_region_end
  s_c stepG_seq
  s_reg
  s_op
  s_c stepG_region_end
  s_c stepG_seq
  s_reg
  s_stop
  refine LoneTo.step (step_lone_select_recv_shut (c := c) (z := .int .i64 0) (cap := n) (s := s) (r := r) (tm := false)
    (stepG_comm (cases := #[rcase c (.int .i64 0)]) (blocking := false) (shape := .select) (w' := w) rfl rfl (by decide) (by simp [go_sem, execOp, rcase, Act.eval])) hc) ?_
  rw [Frame.finish_at]
  walk_nrm
  refine LoneTo.goes (n := 40) ?_
  s_op
  s_op
  s_c stepG_region_end
  s_c stepG_block
  s_cond true
  s_c stepG_seq
  s_reg
  s_op
  s_op
  s_op
  s_op
  s_c stepG_region_end
  s_c stepG_seq
  s_reg
  s_op
  s_op
  s_op
  s_op
  s_c stepG_region_end
  s_c stepG_ret'
  s_stop
  exact LoneTo.done ⟨.returned (.tuple #[.int .i64 0, .bool false]), _, rfl, ⟨rfl, rfl⟩, rfl, rfl, rfl, rfl, _, Try.func18, by simp [results, Try.f18, Frame.at]⟩
set_option maxRecDepth 100000 in
theorem take_none (c n : Nat) (s r : Nat) (w : World) (hc : w.heap[c]? = some (.chan n (vals []) false s r false)) :
    Calls Try.prog 18 #[.chan (some c)] w fun e w' => e = .returned (.tuple #[.int .i64 0, .bool false]) ∧ w = w' := by
  refine calls_of_loneTo fun cs => ?_
  have e : Frame.enter Try.prog 18 #[.chan (some c)] .normal = (base 18).at ⟨#[.chan (some c), undef, undef, undef, undef, undef, undef, undef, undef, undef, undef, undef, undef, undef, undef, undef], []⟩ [.code (Try.f18.body.getD .skip)] := by
    simp [Frame.enter, Frame.at, Try.func18, base, Try.f18]
  rw [e]
  refine LoneTo.goes (n := 40) ?_
  simp only [Try.f18, Option.getD_some]
  s_c stepG_seq
  s_reg
  s_op
  s_op
  s_c stepG_region_end
  s_c stepG_seq
  s_reg
  s_op
  s_c stepG_region_end
  s_c stepG_seq
  s_reg
  s_stop
  refine LoneTo.step (step_lone_select_default (c := c) (z := .int .i64 0) (cap := n) (s := s) (r := r) (tm := false)
    (stepG_comm (cases := #[rcase c (.int .i64 0)]) (blocking := false) (shape := .select) (w' := w) rfl rfl (by decide) (by simp [go_sem, execOp, rcase, Act.eval])) hc) ?_
  rw [Frame.finish_at]
  walk_nrm
  refine LoneTo.goes (n := 40) ?_
  s_op
  s_op
  s_c stepG_region_end
  s_c stepG_block
  s_cond false
  s_c stepG_seq
  s_reg
  s_op
  s_c stepG_region_end
  s_c stepG_seq
  s_reg
  s_op
  s_op
  s_op
  s_c stepG_region_end
  s_c stepG_ret'
  s_stop
  exact LoneTo.done ⟨.returned (.tuple #[.int .i64 0, .bool false]), _, rfl, ⟨rfl, rfl⟩, rfl, rfl, rfl, rfl, _, Try.func18, by simp [results, Try.f18, Frame.at]⟩

/-- What take answers of a lane. -/
theorem take_any (c n : Nat) (L : List Int) (cl : Bool) (s r : Nat) (w : World) (hc : w.heap[c]? = some (.chan n (vals L) cl s r false)) :
    Calls Try.prog 18 #[.chan (some c)] w fun e w' => e = .returned (.tuple #[.int .i64 (L.headD 0), .bool (!L.isEmpty)]) ∧ ∃ r', (L = [] → w' = w) ∧ (L ≠ [] → w' = w.setChan c n (vals L.tail) cl s r' false) := by
  match L, hc with
  | x :: L, hc => exact (take_some c n x L cl s r w hc).mono (by rintro e w' ⟨rfl, rfl⟩; exact ⟨rfl, r + 1, fun h => absurd h (by simp), fun _ => rfl⟩)
  | [], hc =>
    cases cl
    · exact (take_none c n s r w hc).mono (by rintro e w' ⟨rfl, rfl⟩; exact ⟨rfl, 0, fun _ => rfl, fun h => absurd rfl h⟩)
    · exact (take_shut c n s r w hc).mono (by rintro e w' ⟨rfl, rfl⟩; exact ⟨rfl, 0, fun _ => rfl, fun h => absurd rfl h⟩)

end Go.Proofs.Ytlomjckmclefeaa
